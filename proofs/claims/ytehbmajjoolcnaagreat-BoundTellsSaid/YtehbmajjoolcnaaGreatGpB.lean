/-
  The parts of this proof that speak of the functions one by one.
-/
import Derived.Test.YtehbmajjoolcnaaGreatGpA
import Derived.Test.YtehbmajjoolcnaaGreatTyl
namespace Go.AM.Spec
set_option linter.unusedVariables false
set_option linter.unusedSimpArgs false
set_option maxHeartbeats 1000000
set_option maxRecDepth 10000
theorem refCount_loop (call : CallF) (l : List Sm) (hl : l.length ≤ 1000) (hN : (Sm.flats l).length ≤ 100000)
    (hf : ∀ e ∈ l, ∀ b ∈ e.blocks, call n_r16_Count [.sl 7 (Sm.rows b)] [] = some (.int .i64 (Sm.flats b).length, [])) (R : Option (V × Heap)) (k : List Item) :
    ∀ (j i x : Nat) (φ : Fr), i + j = l.length → x + (Sm.flats (l.drop i)).length = (Sm.flats l).length + j → Fr.get φ 0 = .sl 7 (Sm.rows l) → Fr.get φ 3 = .int .i64 x → Fr.get φ 4 = .int .i64 i →
      (∀ φ', Fr.get φ' 3 = .int .i64 (Sm.flats l).length → M call k φ' [] = R) →
      M call (.code l_r16_Count_0 :: .blk 0 :: k) φ [] = R := by
  intro j
  induction j with
  | zero =>
    intro i x φ hj hx h0 h3 h4 hexit
    have hi : ¬ ((i : Int) < l.length) := by omega
    rw [List.drop_of_length_le (by omega)] at hx
    simp only [Sm.flats, List.length_nil, Nat.add_zero] at hx
    rw [l_r16_Count_0, M_loop, ← l_r16_Count_0]
    simp [b_r16_Count_0, h0, h3, h4, hi, Sm.rows_len]
    exact hexit _ (by simp [h3, hx])
  | succ j ih =>
    intro i x φ hj hx h0 h3 h4 hexit
    have hi : (i : Int) < l.length := by omega
    obtain ⟨e, he, hmem, hd⟩ := at_some (l := l) (i := i) (by omega)
    have hre := Sm.rows_at he
    have hcl := hf e hmem
    have hw : IntKind.i64.wrap ((i : Int) + 1) = ((i + 1 : Nat) : Int) := by rw [w64 (by omega) (by omega)]; rfl
    obtain ⟨op, s, n, ee, b, c, g⟩ := e
    rw [hd] at hx
    simp only [Sm.flats, Sm.flat, List.length_append, List.length_cons] at hx
    have c1 := hcl b (by simp [Sm.blocks])
    have c2 := hcl c (by simp [Sm.blocks])
    simp only [Sm.cells] at hre
    have hw1 : IntKind.i64.wrap ((x : Int) + (Sm.flats b).length) = ((x + (Sm.flats b).length : Nat) : Int) := by rw [w64 (by omega) (by omega)]; rfl
    have hw2 : IntKind.i64.wrap ((x : Int) + (Sm.flats b).length + (Sm.flats c).length) = ((x + (Sm.flats b).length + (Sm.flats c).length : Nat) : Int) := by rw [w64 (by omega) (by omega)]; rfl
    rw [l_r16_Count_0, M_loop, ← l_r16_Count_0]
    simp [b_r16_Count_0, h0, h3, h4, hi, Sm.rows_len, hre, c1, c2, hw, hw1, hw2]
    exact ih (i + 1) (x + (Sm.flats b).length + (Sm.flats c).length) _ (by omega) (by omega) (by simp [h0]) (by simp) (by simp) hexit
theorem refCount_step (l : List Sm) (hl : l.length ≤ 1000) (hN : (Sm.flats l).length ≤ 100000)
    (hf : ∀ e ∈ l, ∀ b ∈ e.blocks, eval tbl noExt n_r16_Count [.sl 7 (Sm.rows b)] [] = some (.int .i64 (Sm.flats b).length, [])) :
    eval tbl noExt n_r16_Count [.sl 7 (Sm.rows l)] [] = some (.int .i64 (Sm.flats l).length, []) := by
  rw [eval_M rfl rfl t_r16_Count rfl]
  simp [c_r16_Count, Sm.rows_len]
  refine refCount_loop _ l hl hN hf _ _ l.length 0 l.length _ (by omega) (by simp; omega) (by simp) (by simp) (by simp) ?_
  intro φ' g1
  simp [r_r16_Count_0, g1]
theorem refCount_ok : ∀ (n : Nat) (l : List Sm), Sm.sizes l ≤ n → n ≤ 1000 → eval tbl noExt n_r16_Count [.sl 7 (Sm.rows l)] [] = some (.int .i64 (Sm.flats l).length, []) := by
  intro n
  induction n with
  | zero =>
    intro l hl hn
    have h0 : l = [] := by
      have := Sm.sizes_ge l
      exact List.length_eq_zero_iff.1 (by omega)
    subst h0
    exact refCount_step [] (by simp) (by simp [Sm.flats]) (by simp)
  | succ n ih =>
    intro l hl hn
    refine refCount_step l (by have := Sm.sizes_ge l; omega) (by have := Sm.flats_sizes l; omega) fun e he b hb => ih b ?_ (by omega)
    have h1 := Sm.sizes_mem he
    obtain ⟨op, w, m, ee, b1, b2, g⟩ := e
    simp only [Sm.size] at h1
    simp only [Sm.blocks, List.mem_cons, List.not_mem_nil, or_false] at hb
    rcases hb with rfl | rfl <;> omega
end Go.AM.Spec
namespace Go.AM.Spec
set_option linter.unusedVariables false
set_option linter.unusedSimpArgs false
set_option maxHeartbeats 1000000
set_option maxRecDepth 10000
theorem refLetter_eq (c : UInt8) (H : Heap) : eval tbl noExt n_r15_letter [.int .u8 c.toNat] H = some (.bool (isLetter c), H) := by
  have h1 := le_u8 97 c
  have h2 := le_u8 c 122
  simp only [UInt8.reduceToNat] at h1 h2
  rw [eval_M rfl rfl t_r15_letter rfl]
  unfold isLetter
  rw [← h1, ← h2]
  by_cases h : (97 : Int) ≤ c.toNat
  · simp [c_r15_letter, h]
  · simp [c_r15_letter, h]
theorem refDigit_eq (c : UInt8) (H : Heap) : eval tbl noExt n_r15_digit [.int .u8 c.toNat] H = some (.bool (isDigit c), H) := by
  have h1 := le_u8 48 c
  have h2 := le_u8 c 57
  simp only [UInt8.reduceToNat] at h1 h2
  rw [eval_M rfl rfl t_r15_digit rfl]
  unfold isDigit
  rw [← h1, ← h2]
  by_cases h : (48 : Int) ≤ c.toNat
  · simp [c_r15_digit, h]
  · simp [c_r15_digit, h]
theorem refInner_eq (c : UInt8) (H : Heap) : eval tbl noExt n_r15_inner [.int .u8 c.toNat] H = some (.bool (isInner c), H) := by
  have h3 := eq_u8 c 95
  simp only [UInt8.reduceToNat] at h3
  rw [eval_M rfl rfl t_r15_inner rfl]
  unfold isInner
  rw [← h3]
  cases h1 : isLetter c with
  | true => simp [c_r15_inner, refLetter_eq, h1]
  | false =>
    cases h2 : isDigit c with
    | true => simp [c_r15_inner, refLetter_eq, refDigit_eq, h1, h2]
    | false => simp [c_r15_inner, refLetter_eq, refDigit_eq, h1, h2]
theorem refKey_loop (s : List UInt8) (l : List (List UInt8)) (hl : l.length ≤ 1000) (H : Heap) (call : CallF) (Q : Option (V × Heap) → Prop) (k : List Item)
    (hret : ∀ φ', l.contains s = true → Fr.get φ' 2 = .bool true → Q (retK k φ' H)) (hexit : ∀ φ', l.contains s = false → Q (M call k φ' H)) :
    ∀ (j i : Nat) (φ : Fr), i + j = l.length → l.contains s = (l.drop i).contains s → Fr.get φ 0 = .str s → Fr.get φ 3 = .own 1 (l.map fun w => [.str w]) → Fr.get φ 4 = .int .i64 i →
      Q (M call (.code l_r15_Key_0 :: .blk 0 :: k) φ H) := by
  intro j
  induction j with
  | zero =>
    intro i φ hj hs h0 h3 h4
    have hi : ¬ ((i : Int) < l.length) := by omega
    rw [List.drop_of_length_le (by omega)] at hs
    rw [l_r15_Key_0, M_loop, ← l_r15_Key_0]
    simp [b_r15_Key_0, h0, h3, h4, hi]
    exact hexit _ (by rw [hs]; rfl)
  | succ j ih =>
    intro i φ hj hs h0 h3 h4
    have hi : (i : Int) < l.length := by omega
    have hil : i < l.length := by omega
    obtain ⟨a, ha, hd⟩ : ∃ a, l[i]? = some a ∧ l.drop i = a :: l.drop (i + 1) := ⟨l[i], List.getElem?_eq_getElem hil, List.drop_eq_getElem_cons hil⟩
    have hr : (l.map fun w => [V.str w])[i]? = some [.str a] := by rw [List.getElem?_map, ha]; rfl
    have hgl : (l.map fun w => [V.str w]).length = l.length := List.length_map ..
    have hw1 : IntKind.i64.wrap ((i : Int) + 1) = ((i + 1 : Nat) : Int) := by rw [w64 (by omega) (by omega)]; rfl
    rw [hd, List.contains_cons] at hs
    rw [l_r15_Key_0, M_loop, ← l_r15_Key_0]
    by_cases hb : a = s
    · have hb2 : (s == a) = true := by simp [hb]
      rw [hb2, Bool.true_or] at hs
      simp [b_r15_Key_0, h0, h3, h4, hi, hgl, hr, hb]
      exact hret _ hs (by simp)
    · have hb2 : (s == a) = false := by simp; exact fun h => hb h.symm
      rw [hb2, Bool.false_or] at hs
      simp [b_r15_Key_0, h0, h3, h4, hi, hgl, hr, hb, hw1]
      exact ih (i + 1) _ (by omega) hs (by simp [h0]) (by simp [h3]) (by simp)
theorem refKey_eq (s : List UInt8) (H : Heap) : eval tbl noExt n_r15_Key [.str s] H = some (.bool (isKey s), H) := by
  unfold isKey
  rw [keyList_eq]
  rw [eval_M rfl rfl t_r15_Key rfl]
  generalize hb : keyList.contains s = b
  simp [c_r15_Key]
  refine refKey_loop s keyList (by decide) H _ (fun o => o = some (.bool b, H)) _ (fun φ' h g => ?_) (fun φ' h => ?_) 32 0 _ (by rfl) rfl (by simp) (by simp [keyList]) (by simp)
  · rw [hb] at h; simp [g, h]
  · rw [hb] at h; simp [r_r15_Key_0, h]
theorem refName_loop (s : List UInt8) (hl : s.length ≤ 1000000) (H : Heap) (Q : Option (V × Heap) → Prop) (k : List Item)
    (hret : ∀ φ', s.all isInner = false → Fr.get φ' 2 = .bool false → Q (retK k φ' H)) (hexit : ∀ φ', s.all isInner = true → Q (M (eval tbl noExt) k φ' H)) :
    ∀ (j i : Nat) (φ : Fr), i + j = s.length → s.all isInner = (s.drop i).all isInner → Fr.get φ 0 = .str s → Fr.get φ 3 = .int .i64 i →
      Q (M (eval tbl noExt) (.code l_r15_Name_0 :: .blk 0 :: k) φ H) := by
  intro j
  induction j with
  | zero =>
    intro i φ hj hs h0 h3
    have hi : ¬ ((i : Int) < s.length) := by omega
    rw [List.drop_of_length_le (by omega)] at hs
    rw [l_r15_Name_0, M_loop, ← l_r15_Name_0]
    simp [b_r15_Name_0, h0, h3, hi]
    exact hexit _ (by rw [hs]; rfl)
  | succ j ih =>
    intro i φ hj hs h0 h3
    have hi : (i : Int) < s.length := by omega
    have hil : i < s.length := by omega
    obtain ⟨a, ha, hd⟩ : ∃ a, s[i]? = some a ∧ s.drop i = a :: s.drop (i + 1) := ⟨s[i], List.getElem?_eq_getElem hil, List.drop_eq_getElem_cons hil⟩
    have hw1 : IntKind.i64.wrap ((i : Int) + 1) = ((i + 1 : Nat) : Int) := by rw [w64 (by omega) (by omega)]; rfl
    rw [hd, List.all_cons] at hs
    have hc := refInner_eq a
    rw [l_r15_Name_0, M_loop, ← l_r15_Name_0]
    cases hb : isInner a with
    | false =>
      rw [hb, Bool.false_and] at hs
      rw [hb] at hc
      simp [b_r15_Name_0, h0, h3, hi, ha, hc]
      exact hret _ hs (by simp)
    | true =>
      rw [hb, Bool.true_and] at hs
      rw [hb] at hc
      simp [b_r15_Name_0, h0, h3, hi, ha, hc, hw1]
      exact ih (i + 1) _ (by omega) hs (by simp [h0]) (by simp)
theorem refName_eq (s : List UInt8) (hs : s.length ≤ 1000000) (H : Heap) : eval tbl noExt n_r15_Name [.str s] H = some (.bool (isName s), H) := by
  rw [eval_M rfl rfl t_r15_Name rfl]
  cases s with
  | nil => simp [c_r15_Name, isName]
  | cons c l =>
    have h1 : ¬ ((l.length : Int) + 1 < 1) := by omega
    by_cases h8 : (8 : Int) < (l.length : Int) + 1
    · have : ¬ (l.length + 1 ≤ 8) := by omega
      simp [c_r15_Name, h1, h8, isName, this]
    have h8' : l.length + 1 ≤ 8 := by omega
    have hc := refLetter_eq c
    cases hb : isLetter c with
    | false =>
      rw [hb] at hc
      simp [c_r15_Name, h1, h8, isName, hc, hb]
    | true =>
    rw [hb] at hc
    have hk := refKey_eq (c :: l)
    cases hkb : isKey (c :: l) with
    | true =>
      rw [hkb] at hk
      simp [c_r15_Name, h1, h8, isName, hc, hk, hkb]
    | false =>
      rw [hkb] at hk
      simp [c_r15_Name, h1, h8, hc, hk]
      refine refName_loop (c :: l) hs H (fun o => o = some (.bool (isName (c :: l)), H)) _ (fun φ' h g => ?_) (fun φ' h => ?_) (c :: l).length 0 _ (by simp) rfl (by simp) (by simp)
      · simp [g, isName, h]
      · simp [r_r15_Name_0, isName, h, hb, h8', hkb]
end Go.AM.Spec
namespace Go.AM.Spec
set_option linter.unusedVariables false
set_option linter.unusedSimpArgs false
set_option maxHeartbeats 4000000
set_option maxRecDepth 10000
theorem list_loop (call : CallF) (l : List Sm) (hl : l.length ≤ 1000)
    (hf : ∀ e ∈ l, ∀ b ∈ e.blocks, ∀ (x : List Sm) (K : Heap), x.length + (Sm.flats b).length ≤ 100000 → call n_r16_list [.sl 7 (Sm.rows b), .own 7 (Sm.rows x)] K = some (.own 7 (Sm.rows (x ++ Sm.flats b)), K)) (K : Heap) (R : Option (V × Heap)) (k : List Item) :
    ∀ (j i : Nat) (x : List Sm) (φ : Fr), i + j = l.length → x.length + (Sm.flats (l.drop i)).length ≤ 100000 → Fr.get φ 0 = .sl 7 (Sm.rows l) → Fr.get φ 1 = .own 7 (Sm.rows x) → Fr.get φ 5 = .int .i64 i →
      (∀ φ', Fr.get φ' 1 = .own 7 (Sm.rows (x ++ Sm.flats (l.drop i))) → M call k φ' K = R) →
      M call (.code l_r16_list_0 :: .blk 0 :: k) φ K = R := by
  intro j
  induction j with
  | zero =>
    intro i x φ hj hN h0 h1 h5 hexit
    have hi : ¬ ((i : Int) < l.length) := by omega
    rw [List.drop_of_length_le (by omega)] at hexit
    simp only [Sm.flats, List.append_nil] at hexit
    rw [l_r16_list_0, M_loop, ← l_r16_list_0]
    simp [b_r16_list_0, h0, h1, h5, hi, Sm.rows_len]
    exact hexit _ (by simp [h1])
  | succ j ih =>
    intro i x φ hj hN h0 h1 h5 hexit
    have hi : (i : Int) < l.length := by omega
    obtain ⟨e, he, hmem, hd⟩ := at_some (l := l) (i := i) (by omega)
    have hre := Sm.rows_at he
    have hcl := hf e hmem
    have hw : IntKind.i64.wrap ((i : Int) + 1) = ((i + 1 : Nat) : Int) := by rw [w64 (by omega) (by omega)]; rfl
    obtain ⟨op, s, n, ee, b, c, g⟩ := e
    rw [hd] at hN hexit
    simp only [Sm.flats, Sm.flat, List.length_append, List.length_cons, List.cons_append] at hN hexit
    have hb : 2 * (x.length + 1) * 112 ≤ 281474976710656 := by omega
    have c1 := hcl b (by simp [Sm.blocks]) (x ++ [.mk op s n ee b c g]) K (by simp; omega)
    have c2 := hcl c (by simp [Sm.blocks]) (x ++ [.mk op s n ee b c g] ++ Sm.flats b) K (by simp; omega)
    simp only [Sm.cells] at hre
    have e0 : Sm.rows x ++ [[V.int .i64 op, .str s, .int .i64 n, .sl 4 (Ex.rows ee), .sl 7 (Sm.rows b), .sl 7 (Sm.rows c), .bool g]] = Sm.rows (x ++ [.mk op s n ee b c g]) := by simp [Sm.rows_eq, Sm.cells]
    rw [l_r16_list_0, M_loop, ← l_r16_list_0]
    simp only [List.append_assoc, List.cons_append, List.nil_append] at c1 c2 e0
    simp [b_r16_list_0, h0, h1, h5, hi, Sm.rows_len, hre, hb, c1, c2, e0, hw]
    refine ih (i + 1) (x ++ .mk op s n ee b c g :: (Sm.flats b ++ Sm.flats c)) _ (by omega) (by simp; omega) (by simp [h0]) (by simp) (by simp) ?_
    intro φ' g1
    refine hexit φ' ?_
    simpa using g1
theorem list_step (l : List Sm) (hl : l.length ≤ 1000)
    (hf : ∀ e ∈ l, ∀ b ∈ e.blocks, ∀ (x : List Sm) (K : Heap), x.length + (Sm.flats b).length ≤ 100000 → eval tbl noExt n_r16_list [.sl 7 (Sm.rows b), .own 7 (Sm.rows x)] K = some (.own 7 (Sm.rows (x ++ Sm.flats b)), K))
    (x : List Sm) (K : Heap) (hN : x.length + (Sm.flats l).length ≤ 100000) :
    eval tbl noExt n_r16_list [.sl 7 (Sm.rows l), .own 7 (Sm.rows x)] K = some (.own 7 (Sm.rows (x ++ Sm.flats l)), K) := by
  rw [eval_M rfl rfl t_r16_list rfl]
  simp [c_r16_list]
  refine list_loop _ l hl hf K _ _ l.length 0 x _ (by omega) (by simpa using hN) (by simp) (by simp) (by simp) ?_
  intro φ' g1
  simp [r_r16_list_0, g1]
theorem list_ok : ∀ (n : Nat) (l : List Sm), Sm.sizes l ≤ n → n ≤ 1000 → ∀ (x : List Sm) (K : Heap), x.length + (Sm.flats l).length ≤ 100000 →
    eval tbl noExt n_r16_list [.sl 7 (Sm.rows l), .own 7 (Sm.rows x)] K = some (.own 7 (Sm.rows (x ++ Sm.flats l)), K) := by
  intro n
  induction n with
  | zero =>
    intro l hl hn
    have h0 : l = [] := by
      have := Sm.sizes_ge l
      exact List.length_eq_zero_iff.1 (by omega)
    subst h0
    exact list_step [] (by simp) (by simp)
  | succ n ih =>
    intro l hl hn
    refine list_step l (by have := Sm.sizes_ge l; omega) fun e he b hb => ih b ?_ (by omega)
    have h1 := Sm.sizes_mem he
    obtain ⟨op, w, m, ee, b1, b2, g⟩ := e
    simp only [Sm.size] at h1
    simp only [Sm.blocks, List.mem_cons, List.not_mem_nil, or_false] at hb
    rcases hb with rfl | rfl <;> omega
theorem refAll_loop (p : Pg) (hp : p.size ≤ 1000) (R : Option (V × Heap)) (k : List Item)
    (hexit : ∀ φ', Fr.get φ' 1 = .ptr 0 0 → Fr.get φ' 3 = .own 7 (Sm.rows (Sm.flats (p.procs.map (·.2)).flatten)) → M (eval tbl noExt) k φ' [some p.cells] = R) :
    ∀ (j i : Nat) (φ : Fr), i + j = p.procs.length → Fr.get φ 1 = .ptr 0 0 → Fr.get φ 3 = .own 7 (Sm.rows (Sm.flats ((p.procs.map (·.2)).take i).flatten)) → Fr.get φ 4 = .int .i64 i →
      M (eval tbl noExt) (.code l_r16_All_0 :: .blk 0 :: k) φ [some p.cells] = R := by
  have hsz := p.parts_size
  intro j
  induction j with
  | zero =>
    intro i φ hj h1 h3 h4
    have hi : ¬ ((i : Int) < p.procs.length) := by omega
    rw [List.take_of_length_le (by simp; omega)] at h3
    rw [l_r16_All_0, M_loop, ← l_r16_All_0]
    simp only [Pg.cells] at hexit ⊢
    simp [b_r16_All_0, h1, h3, h4, hi, Pg.pcells_len]
    exact hexit _ (by simp [h1]) (by simp [h3])
  | succ j ih =>
    intro i φ hj h1 h3 h4
    have hi : (i : Int) < p.procs.length := by omega
    obtain ⟨e, he, hmem, hd⟩ := at_some (l := p.procs) (i := i) (by omega)
    have hrow := p.prow he
    have hw : IntKind.i64.wrap ((i : Int) + 1) = ((i + 1 : Nat) : Int) := by rw [w64 (by omega) (by omega)]; rfl
    have hs1 : Sm.sizes ((p.procs.map (·.2)).take i).flatten + Sm.sizes e.2 ≤ Sm.sizes p.parts.flatten := by
      have : p.parts = (p.procs.map (·.2)).take i ++ (e.2 :: ((p.procs.drop (i + 1)).map (·.2) ++ [p.main, p.recover])) := by
        rw [Pg.parts]
        conv => lhs; rw [← List.take_append_drop i p.procs, hd]
        simp
      rw [this]
      simp only [List.flatten_append, List.flatten_cons, sizes_append]
      omega
    have hc := list_ok 1000 e.2 (by omega) (Nat.le_refl _) (Sm.flats ((p.procs.map (·.2)).take i).flatten) [some p.cells] (by
      have := Sm.flats_sizes ((p.procs.map (·.2)).take i).flatten
      have := Sm.flats_sizes e.2
      omega)
    have hnext : Sm.flats ((p.procs.map (·.2)).take i).flatten ++ Sm.flats e.2 = Sm.flats ((p.procs.map (·.2)).take (i + 1)).flatten := by
      rw [List.take_add_one, List.getElem?_map, he]; simp [Sm.flats_append]
    rw [hnext] at hc
    rw [l_r16_All_0, M_loop, ← l_r16_All_0]
    simp only [Pg.cells] at hc ih ⊢
    simp [b_r16_All_0, h1, h3, h4, hi, Pg.pcells_len, hrow, hc, hw]
    exact ih (i + 1) _ (by omega) (by simp [h1]) (by simp) (by simp)
theorem refAll_eq (p : Pg) (hp : p.size ≤ 1000) : eval tbl noExt n_r16_All [.agg p.cells] [] = some (.own 7 (Sm.rows p.flats), []) := by
  have hsz := p.parts_size
  have hs : Sm.sizes (p.procs.map (·.2)).flatten + Sm.sizes p.main + Sm.sizes p.recover = Sm.sizes p.parts.flatten := by
    simp only [Pg.parts, List.flatten_append, sizes_append, List.flatten_cons, List.flatten_nil, List.append_nil]; omega
  have f0 := Sm.flats_sizes (p.procs.map (·.2)).flatten
  have f1 := Sm.flats_sizes p.main
  have f2 := Sm.flats_sizes p.recover
  have c1 := list_ok 1000 p.main (by omega) (Nat.le_refl _) (Sm.flats (p.procs.map (·.2)).flatten) [some p.cells] (by omega)
  have c2 := list_ok 1000 p.recover (by omega) (Nat.le_refl _) (Sm.flats (p.procs.map (·.2)).flatten ++ Sm.flats p.main) [some p.cells] (by simp; omega)
  have hall : Sm.flats (p.procs.map (·.2)).flatten ++ Sm.flats p.main ++ Sm.flats p.recover = p.flats := by
    simp [Pg.flats, Pg.parts, Sm.flats_append]
  rw [hall] at c2
  rw [eval_M rfl rfl t_r16_All rfl]
  simp [c_r16_All]
  refine refAll_loop p hp _ _ (fun φ' h1 h3 => ?_) p.procs.length 0 _ (by omega) (by simp) (by simp [Sm.flats, Sm.rows]) (by simp)
  simp only [Pg.cells] at c1 c2 ⊢
  simp [r_r16_All_0, h1, h3, c1, c2]
theorem refParts_eq (op : Int) (H : Heap) : eval tbl noExt n_r16_Parts [.int .i64 op] H = some (tup (parts op), H) := by
  rw [eval_M rfl rfl t_r16_Parts rfl]
  by_cases h1 : op < 1
  · simp [c_r16_Parts, h1, parts, tup]
  by_cases h2 : 14 < op
  · simp [c_r16_Parts, h1, h2, parts, tup]
  by_cases h3 : op ≤ 4
  · simp [c_r16_Parts, h1, h2, h3, parts, tup]
  by_cases h4 : op ≤ 8
  · simp [c_r16_Parts, h1, h2, h3, h4, parts, tup]
  · simp [c_r16_Parts, h1, h2, h3, h4, parts, tup]
theorem refExprs_eq (op : Int) (H : Heap) : eval tbl noExt n_r16_Exprs [.int .i64 op] H = some (tup (exprs op), H) := by
  rw [eval_M rfl rfl t_r16_Exprs rfl]
  by_cases h1 : op < 1
  · have : exprs op = none := by unfold exprs; rw [if_neg (by omega), if_neg (by omega), if_neg (by omega), if_neg (by omega), if_neg (by omega), if_neg (by omega), if_neg (by omega), if_pos h1]
    simp [c_r16_Exprs, h1, this, tup]
  by_cases h2 : 18 < op
  · have : exprs op = none := by unfold exprs; rw [if_neg (by omega), if_neg (by omega), if_neg (by omega), if_neg (by omega), if_neg (by omega), if_neg (by omega), if_neg (by omega), if_neg (by omega), if_pos h2]
    simp [c_r16_Exprs, h1, h2, this, tup]
  · have hop : op = 1 ∨ op = 2 ∨ op = 3 ∨ op = 4 ∨ op = 5 ∨ op = 6 ∨ op = 7 ∨ op = 8 ∨ op = 9 ∨ op = 10 ∨ op = 11 ∨ op = 12 ∨ op = 13 ∨ op = 14 ∨ op = 15 ∨ op = 16 ∨ op = 17 ∨ op = 18 := by omega
    rcases hop with rfl | rfl | rfl | rfl | rfl | rfl | rfl | rfl | rfl | rfl | rfl | rfl | rfl | rfl | rfl | rfl | rfl | rfl <;> simp [c_r16_Exprs, exprs, tup, w64]
def RxOK (d : Nat) (e : Ex) : Prop := ∀ H, eval tbl noExt n_r16_Expr [.agg e.cells, .int .i64 d] H = some (.bool (e.ok d), H)
theorem refExpr_loop (d : Nat) (hd : d ≤ 20000) (H : Heap) (a0 a1 a2 : V) (x : List Ex) (hl : x.length ≤ 20000) (hx : ∀ e ∈ x, RxOK d e) (Q : Option (V × Heap) → Prop) (k : List Item)
    (hret : ∀ φ', Ex.oks x d = false → Fr.get φ' 4 = .bool false → Q (retK k φ' (H ++ [some [a0, a1, a2, .sl 4 (Ex.rows x)]])))
    (hexit : ∀ φ', Ex.oks x d = true → Q (M (eval tbl noExt) k φ' (H ++ [some [a0, a1, a2, .sl 4 (Ex.rows x)]]))) :
    ∀ (j i : Nat) (φ : Fr), i + j = x.length → Ex.oks x d = Ex.oks (x.drop i) d → Fr.get φ 1 = .int .i64 ((d : Int) + 1) → Fr.get φ 2 = .ptr H.length 0 → Fr.get φ 5 = .int .i64 x.length → Fr.get φ 7 = .int .i64 i →
      Q (M (eval tbl noExt) (.code l_r16_Expr_0 :: .blk 0 :: k) φ (H ++ [some [a0, a1, a2, .sl 4 (Ex.rows x)]])) := by
  have hcl : (Ex.rows x).length = x.length := by rw [Ex.rows_eq]; simp
  intro j
  induction j with
  | zero =>
    intro i φ hj hs h1 h2 h5 h7
    have hi : ¬ ((i : Int) < x.length) := by omega
    rw [List.drop_of_length_le (by omega)] at hs
    rw [l_r16_Expr_0, M_loop, ← l_r16_Expr_0]
    simp [b_r16_Expr_0, h1, h2, h5, h7, hi]
    exact hexit _ (by rw [hs]; simp [Ex.oks])
  | succ j ih =>
    intro i φ hj hs h1 h2 h5 h7
    have hi : (i : Int) < x.length := by omega
    have hil : i < x.length := by omega
    obtain ⟨e, he, hmem, hdr⟩ : ∃ e, x[i]? = some e ∧ e ∈ x ∧ x.drop i = e :: x.drop (i + 1) := ⟨x[i], List.getElem?_eq_getElem hil, List.getElem_mem hil, List.drop_eq_getElem_cons hil⟩
    have hrow : (Ex.rows x)[i]? = some e.cells := by rw [Ex.rows_eq, List.getElem?_map, he]; rfl
    have hw1 : IntKind.i64.wrap ((i : Int) + 1) = ((i + 1 : Nat) : Int) := by rw [w64 (by omega) (by omega)]; rfl
    have hw : IntKind.i64.wrap (d : Int) = d := w64 (by omega) (by omega)
    rw [hdr, Ex.oks] at hs
    have hcall := hx e hmem []
    rw [l_r16_Expr_0, M_loop, ← l_r16_Expr_0]
    cases hb : e.ok d with
    | false =>
      rw [hb, Bool.false_and] at hs
      rw [hb] at hcall
      obtain ⟨op, m, s, y⟩ := e
      simp only [Ex.cells] at hrow hcall
      simp [b_r16_Expr_0, h1, h2, h5, h7, hi, hcl, hrow, get0, hw, hcall]
      exact hret _ hs (by simp)
    | true =>
      rw [hb, Bool.true_and] at hs
      rw [hb] at hcall
      obtain ⟨op, m, s, y⟩ := e
      simp only [Ex.cells] at hrow hcall
      simp [b_r16_Expr_0, h1, h2, h5, h7, hi, hcl, hrow, get0, hw, hcall, hw1]
      exact ih (i + 1) _ (by omega) hs (by simp [h1]) (by simp [h2]) (by simp [h5]) (by simp)
theorem refExpr_step (d : Nat) (hd : d ≤ 20000) (op n : Int) (s : List UInt8) (x : List Ex) (hs : s.length ≤ 300) (hl : x.length ≤ 20000) (hx : ∀ d', d = d' + 1 → ∀ e ∈ x, RxOK d' e) : RxOK d (.mk op n s x) := by
  intro H
  have hP := refParts_eq op
  have hN := refName_eq s (by omega)
  have hcl : (Ex.rows x).length = x.length := by rw [Ex.rows_eq]; simp
  simp only [Ex.ok, Ex.cells]
  rw [eval_M rfl rfl t_r16_Expr rfl]
  cases hpo : parts op with
  | none =>
    rw [hpo] at hP
    simp [c_r16_Expr, hP, tup, get0]
  | some k =>
  rw [hpo] at hP
  cases d with
  | zero => simp [c_r16_Expr, hP, tup, get0]
  | succ d =>
  have hd0 : ¬ ((d : Int) + 1 < 1) := by omega
  by_cases hk : x.length = k
  · have hk' : (x.length : Int) = k := by omega
    subst hk
    have hc' : ∀ φ a0 a1 a2, Fr.get φ 1 = .int .i64 ((d : Int) + 1) → Fr.get φ 2 = .ptr H.length 0 → Fr.get φ 5 = .int .i64 x.length → Fr.get φ 7 = .int .i64 0 →
        M (eval tbl noExt) [.code l_r16_Expr_0, .blk 0, .code r_r16_Expr_0, .fin [.t 4] H.length] φ (H ++ [some [a0, a1, a2, .sl 4 (Ex.rows x)]]) = some (.bool (Ex.oks x d), H) := by
      intro φ a0 a1 a2 h1 h2 h5 h7
      refine refExpr_loop d (by omega) H a0 a1 a2 x hl (hx d rfl) (fun o => o = some (.bool (Ex.oks x d), H)) _ (fun φ' h g => ?_) (fun φ' h => ?_) x.length 0 φ (by omega) rfl h1 h2 h5 h7
      · rw [h]; simp [g]
      · rw [h]; simp [r_r16_Expr_0]
    by_cases h1 : op = 1
    · subst h1
      by_cases a1 : n < 0
      · have a1' : ¬ 0 ≤ n := by omega
        simp [c_r16_Expr, hP, tup, get0, hd0, hcl, leafOk, a1, a1']
      · have a1' : 0 ≤ n := by omega
        by_cases a2 : 1000000000000 < n
        · have a2' : ¬ n ≤ 1000000000000 := by omega
          simp [c_r16_Expr, hP, tup, get0, hd0, hcl, leafOk, a1, a1', a2, a2']
        · have a2' : n ≤ 1000000000000 := by omega
          by_cases a3 : s = []
          · simp [c_r16_Expr, hP, tup, get0, hd0, hcl, leafOk, a1, a1', a2, a2', a3]
            exact hc' _ _ _ _ (by simp) (by simp) (by simp) (by simp)
          · simp [c_r16_Expr, hP, tup, get0, hd0, hcl, leafOk, a1, a1', a2, a2', a3]
    by_cases h3 : op = 3
    · subst h3
      by_cases a1 : n = 0
      · by_cases a3 : s = []
        · simp [c_r16_Expr, hP, tup, get0, hd0, hcl, leafOk, a1, a3]
          exact hc' _ _ _ _ (by simp) (by simp) (by simp) (by simp)
        · simp [c_r16_Expr, hP, tup, get0, hd0, hcl, leafOk, a1, a3]
      by_cases a2 : n = 1
      · by_cases a3 : s = []
        · simp [c_r16_Expr, hP, tup, get0, hd0, hcl, leafOk, a1, a2, a3]
          exact hc' _ _ _ _ (by simp) (by simp) (by simp) (by simp)
        · simp [c_r16_Expr, hP, tup, get0, hd0, hcl, leafOk, a1, a2, a3]
      · simp [c_r16_Expr, hP, tup, get0, hd0, hcl, leafOk, a1, a2]
    by_cases a3 : n = 0
    · by_cases h2 : op = 2
      · subst h2
        by_cases a1 : s.length ≤ 64
        · have a1' : ¬ (64 : Int) < s.length := by omega
          simp [c_r16_Expr, hP, tup, get0, hd0, hcl, leafOk, a1, a1', a3]
          exact hc' _ _ _ _ (by simp) (by simp) (by simp) (by simp)
        · have a1' : (64 : Int) < s.length := by omega
          simp [c_r16_Expr, hP, tup, get0, hd0, hcl, leafOk, a1, a1', a3]
      by_cases h4 : op = 4
      · subst h4
        cases a1 : isName s with
        | true =>
          rw [a1] at hN
          simp [c_r16_Expr, hP, tup, get0, hd0, hcl, leafOk, hN, a1, a3]
          exact hc' _ _ _ _ (by simp) (by simp) (by simp) (by simp)
        | false =>
          rw [a1] at hN
          simp [c_r16_Expr, hP, tup, get0, hd0, hcl, leafOk, hN, a1, a3]
      by_cases a1 : s = []
      · simp [c_r16_Expr, hP, tup, get0, hd0, hcl, leafOk, h1, h2, h3, h4, a1, a3]
        exact hc' _ _ _ _ (by simp) (by simp) (by simp) (by simp)
      · simp [c_r16_Expr, hP, tup, get0, hd0, hcl, leafOk, h1, h2, h3, h4, a1, a3]
    · by_cases h2 : op = 2
      · subst h2
        simp [c_r16_Expr, hP, tup, get0, hd0, hcl, leafOk, a3]
      by_cases h4 : op = 4
      · subst h4
        simp [c_r16_Expr, hP, tup, get0, hd0, hcl, leafOk, a3]
      simp [c_r16_Expr, hP, tup, get0, hd0, hcl, leafOk, h1, h2, h3, h4, a3]
  · have hk' : ¬ (x.length : Int) = k := by omega
    simp [c_r16_Expr, hP, tup, get0, hd0, hcl, hk, hk']
theorem expr_ref : ∀ (n : Nat) (e : Ex), e.size ≤ n → n ≤ 20000 → e.txt → ∀ d, d ≤ 20000 → RxOK d e := by
  intro n
  induction n with
  | zero => intro e h; cases e; simp only [Ex.size] at h; omega
  | succ n ih =>
    intro e h hn ht d hd
    obtain ⟨op, m, s, x⟩ := e
    simp only [Ex.size] at h
    simp only [Ex.txt] at ht
    have hl := Ex.sizes_ge x
    have hx : ∀ e ∈ x, e.size ≤ n ∧ e.txt := fun e he => ⟨by have := Ex.sizes_mem he; omega, by
      have : ∀ l : List Ex, Ex.txts l → ∀ e ∈ l, e.txt := by
        intro l
        induction l with
        | nil => intro _ e he; simp at he
        | cons y l ih2 =>
          intro h e he
          rcases List.mem_cons.1 he with rfl | he
          · exact h.1
          · exact ih2 h.2 e he
      exact this x ht.2 e he⟩
    exact refExpr_step d hd op m s x ht.1 (by omega) (fun d' h' e he => ih e (hx e he).1 (by omega) (hx e he).2 d' (by omega))
def RsOK (d : Nat) (e : Sm) : Prop := ∀ H, eval tbl noExt n_r16_Stmt [.agg e.cells, .int .i64 d] H = some (.bool (e.ok d), H)
def RbOK (d : Nat) (l : List Sm) : Prop := ∀ H, eval tbl noExt n_r16_Block [.sl 7 (Sm.rows l), .int .i64 d] H = some (.bool (Sm.oks l d), H)
theorem refBlock_loop (d : Nat) (hd : d ≤ 20000) (H : Heap) (l : List Sm) (hl : l.length ≤ 20000) (hx : ∀ e ∈ l, RsOK d e) (Q : Option (V × Heap) → Prop) (k : List Item)
    (hret : ∀ φ', Sm.oks l d = false → Fr.get φ' 4 = .bool false → Q (retK k φ' H))
    (hexit : ∀ φ', Sm.oks l d = true → Q (M (eval tbl noExt) k φ' H)) :
    ∀ (j i : Nat) (φ : Fr), i + j = l.length → Sm.oks l d = Sm.oks (l.drop i) d → Fr.get φ 0 = .sl 7 (Sm.rows l) → Fr.get φ 1 = .int .i64 d → Fr.get φ 5 = .int .i64 i →
      Q (M (eval tbl noExt) (.code l_r16_Block_0 :: .blk 0 :: k) φ H) := by
  have hcl : (Sm.rows l).length = l.length := by rw [Sm.rows_eq]; simp
  intro j
  induction j with
  | zero =>
    intro i φ hj hs h0 h1 h5
    have hi : ¬ ((i : Int) < l.length) := by omega
    rw [List.drop_of_length_le (by omega)] at hs
    rw [l_r16_Block_0, M_loop, ← l_r16_Block_0]
    simp [b_r16_Block_0, h0, h1, h5, hcl, hi]
    exact hexit _ (by rw [hs]; simp [Sm.oks])
  | succ j ih =>
    intro i φ hj hs h0 h1 h5
    have hi : (i : Int) < l.length := by omega
    have hil : i < l.length := by omega
    obtain ⟨e, he, hmem, hdr⟩ : ∃ e, l[i]? = some e ∧ e ∈ l ∧ l.drop i = e :: l.drop (i + 1) := ⟨l[i], List.getElem?_eq_getElem hil, List.getElem_mem hil, List.drop_eq_getElem_cons hil⟩
    have hrow : (Sm.rows l)[i]? = some e.cells := by rw [Sm.rows_eq, List.getElem?_map, he]; rfl
    have hw1 : IntKind.i64.wrap ((i : Int) + 1) = ((i + 1 : Nat) : Int) := by rw [w64 (by omega) (by omega)]; rfl
    rw [hdr, Sm.oks] at hs
    have hcall := hx e hmem []
    rw [l_r16_Block_0, M_loop, ← l_r16_Block_0]
    cases hb : e.ok d with
    | false =>
      rw [hb, Bool.false_and] at hs
      rw [hb] at hcall
      obtain ⟨op, s, n, x, b, c, g⟩ := e
      simp only [Sm.cells] at hrow hcall
      simp [b_r16_Block_0, h0, h1, h5, hi, hcl, hrow, hcall]
      exact hret _ hs (by simp)
    | true =>
      rw [hb, Bool.true_and] at hs
      rw [hb] at hcall
      obtain ⟨op, s, n, x, b, c, g⟩ := e
      simp only [Sm.cells] at hrow hcall
      simp [b_r16_Block_0, h0, h1, h5, hi, hcl, hrow, hcall, hw1]
      exact ih (i + 1) _ (by omega) hs (by simp [h0]) (by simp [h1]) (by simp)
theorem refBlock_step (d : Nat) (hd : d ≤ 20000) (l : List Sm) (hl : l.length ≤ 20000) (hx : ∀ e ∈ l, RsOK d e) : RbOK d l := by
  intro H
  rw [eval_M rfl rfl t_r16_Block rfl]
  simp [c_r16_Block]
  refine refBlock_loop d hd H l hl hx (fun o => o = some (.bool (Sm.oks l d), H)) _ (fun φ' h g => ?_) (fun φ' h => ?_) l.length 0 _ (by omega) rfl (by simp) (by simp) (by simp)
  · rw [h]; simp [g]
  · rw [h]; simp [r_r16_Block_0]
theorem refStmt_exprs (d : Nat) (H : Heap) (a0 a1 a2 a4 a5 a6 : V) (x : List Ex) (hl : x.length ≤ 20000) (hx : ∀ e ∈ x, RxOK 8 e) (Q : Option (V × Heap) → Prop) (k : List Item)
    (hret : ∀ φ', Ex.oks x 8 = false → Fr.get φ' 4 = .bool false → Q (retK k φ' (H ++ [some [a0, a1, a2, .sl 4 (Ex.rows x), a4, a5, a6]])))
    (hexit : ∀ φ', Ex.oks x 8 = true → Fr.get φ' 1 = .int .i64 d → Fr.get φ' 2 = .ptr H.length 0 → Q (M (eval tbl noExt) k φ' (H ++ [some [a0, a1, a2, .sl 4 (Ex.rows x), a4, a5, a6]]))) :
    ∀ (j i : Nat) (φ : Fr), i + j = x.length → Ex.oks x 8 = Ex.oks (x.drop i) 8 → Fr.get φ 1 = .int .i64 d → Fr.get φ 2 = .ptr H.length 0 → Fr.get φ 5 = .int .i64 x.length → Fr.get φ 7 = .int .i64 i →
      Q (M (eval tbl noExt) (.code l_r16_Stmt_0 :: .blk 0 :: k) φ (H ++ [some [a0, a1, a2, .sl 4 (Ex.rows x), a4, a5, a6]])) := by
  have hcl : (Ex.rows x).length = x.length := by rw [Ex.rows_eq]; simp
  intro j
  induction j with
  | zero =>
    intro i φ hj hs h1 h2 h5 h7
    have hi : ¬ ((i : Int) < x.length) := by omega
    rw [List.drop_of_length_le (by omega)] at hs
    rw [l_r16_Stmt_0, M_loop, ← l_r16_Stmt_0]
    simp [b_r16_Stmt_0, h1, h2, h5, h7, hi]
    exact hexit _ (by rw [hs]; simp [Ex.oks]) (by simp [h1]) (by simp [h2])
  | succ j ih =>
    intro i φ hj hs h1 h2 h5 h7
    have hi : (i : Int) < x.length := by omega
    have hil : i < x.length := by omega
    obtain ⟨e, he, hmem, hdr⟩ : ∃ e, x[i]? = some e ∧ e ∈ x ∧ x.drop i = e :: x.drop (i + 1) := ⟨x[i], List.getElem?_eq_getElem hil, List.getElem_mem hil, List.drop_eq_getElem_cons hil⟩
    have hrow : (Ex.rows x)[i]? = some e.cells := by rw [Ex.rows_eq, List.getElem?_map, he]; rfl
    have hw1 : IntKind.i64.wrap ((i : Int) + 1) = ((i + 1 : Nat) : Int) := by rw [w64 (by omega) (by omega)]; rfl
    rw [hdr, Ex.oks] at hs
    have hcall := hx e hmem []
    rw [l_r16_Stmt_0, M_loop, ← l_r16_Stmt_0]
    cases hb : e.ok 8 with
    | false =>
      rw [hb, Bool.false_and] at hs
      rw [hb] at hcall
      obtain ⟨op, m, s, y⟩ := e
      simp only [Ex.cells, Int.cast_ofNat_Int] at hrow hcall
      simp [b_r16_Stmt_0, h1, h2, h5, h7, hi, hcl, hrow, get0, hcall]
      exact hret _ hs (by simp)
    | true =>
      rw [hb, Bool.true_and] at hs
      rw [hb] at hcall
      obtain ⟨op, m, s, y⟩ := e
      simp only [Ex.cells, Int.cast_ofNat_Int] at hrow hcall
      simp [b_r16_Stmt_0, h1, h2, h5, h7, hi, hcl, hrow, get0, hcall, hw1]
      exact ih (i + 1) _ (by omega) hs (by simp [h1]) (by simp [h2]) (by simp [h5]) (by simp)
theorem refStmt_txn (d : Nat) (op : Int) (H : Heap) (a1 a2 a3 a5 a6 : V) (b : List Sm) (hl : b.length ≤ 20000) (Q : Option (V × Heap) → Prop) (k : List Item)
    (hret : ∀ φ', op = 16 → (b.all fun x => decide (x.op = 3)) = false → Fr.get φ' 4 = .bool false → Q (retK k φ' (H ++ [some [.int .i64 op, a1, a2, a3, .sl 7 (Sm.rows b), a5, a6]])))
    (hexit : ∀ φ', (op = 16 → (b.all fun x => decide (x.op = 3)) = true) → Fr.get φ' 1 = .int .i64 d → Fr.get φ' 2 = .ptr H.length 0 → Q (M (eval tbl noExt) k φ' (H ++ [some [.int .i64 op, a1, a2, a3, .sl 7 (Sm.rows b), a5, a6]]))) :
    ∀ (j i : Nat) (φ : Fr), i + j = b.length → (op = 16 → (b.all fun x => decide (x.op = 3)) = ((b.drop i).all fun x => decide (x.op = 3))) → Fr.get φ 1 = .int .i64 d → Fr.get φ 2 = .ptr H.length 0 → Fr.get φ 10 = .int .i64 i →
      Q (M (eval tbl noExt) (.code l_r16_Stmt_1 :: .blk 2 :: k) φ (H ++ [some [.int .i64 op, a1, a2, a3, .sl 7 (Sm.rows b), a5, a6]])) := by
  have hcl : (Sm.rows b).length = b.length := by rw [Sm.rows_eq]; simp
  intro j
  induction j with
  | zero =>
    intro i φ hj hs h1 h2 h10
    have hi : ¬ ((i : Int) < b.length) := by omega
    rw [List.drop_of_length_le (by omega)] at hs
    rw [l_r16_Stmt_1, M_loop, ← l_r16_Stmt_1]
    simp [b_r16_Stmt_1, h1, h2, h10, hcl, hi, get0]
    exact hexit _ (fun h => by rw [hs h]; rfl) (by simp [h1]) (by simp [h2])
  | succ j ih =>
    intro i φ hj hs h1 h2 h10
    have hi : (i : Int) < b.length := by omega
    have hil : i < b.length := by omega
    obtain ⟨e, he, hmem, hdr⟩ : ∃ e, b[i]? = some e ∧ e ∈ b ∧ b.drop i = e :: b.drop (i + 1) := ⟨b[i], List.getElem?_eq_getElem hil, List.getElem_mem hil, List.drop_eq_getElem_cons hil⟩
    have hrow : (Sm.rows b)[i]? = some e.cells := by rw [Sm.rows_eq, List.getElem?_map, he]; rfl
    have hw1 : IntKind.i64.wrap ((i : Int) + 1) = ((i + 1 : Nat) : Int) := by rw [w64 (by omega) (by omega)]; rfl
    rw [hdr, List.all_cons] at hs
    rw [l_r16_Stmt_1, M_loop, ← l_r16_Stmt_1]
    obtain ⟨oq, s, n, x, b', c, g⟩ := e
    simp only [Sm.cells] at hrow
    have ho : (Sm.mk oq s n x b' c g).op = oq := rfl
    rw [ho] at hs
    by_cases h16 : op = 16
    · subst h16
      have hs := hs rfl
      by_cases h3 : oq = 3
      · rw [decide_eq_true h3, Bool.true_and] at hs
        simp [b_r16_Stmt_1, h1, h2, h10, hi, hcl, hrow, get0, h3, hw1]
        exact ih (i + 1) _ (by omega) (fun _ => hs) (by simp [h1]) (by simp [h2]) (by simp)
      · rw [decide_eq_false h3, Bool.false_and] at hs
        simp [b_r16_Stmt_1, h1, h2, h10, hi, hcl, hrow, get0, h3, hw1]
        exact hret _ rfl hs (by simp)
    · simp [b_r16_Stmt_1, h1, h2, h10, hi, hcl, hrow, get0, h16, hw1]
      exact ih (i + 1) _ (by omega) (fun h => absurd h h16) (by simp [h1]) (by simp [h2]) (by simp)
theorem refStmt_tail (d : Nat) (hd : d ≤ 19500) (op : Int) (H : Heap) (a1 a2 a3 a6 : V) (b c : List Sm) (hb : RbOK (d + 1) b) (hc : RbOK (d + 1) c) (φ : Fr) (h1 : Fr.get φ 1 = .int .i64 d) (h2 : Fr.get φ 2 = .ptr H.length 0) :
    M (eval tbl noExt) [.code r_r16_Stmt_0, .fin [.t 4] H.length] φ (H ++ [some [.int .i64 op, a1, a2, a3, .sl 7 (Sm.rows b), .sl 7 (Sm.rows c), a6]]) = some (.bool (Sm.oks b (d + 1) && Sm.oks c (d + 1)), H) := by
  have hw : IntKind.i64.wrap ((d : Int) + 1) = (d : Int) + 1 := w64 (by omega) (by omega)
  have hb0 := hb []
  have hc0 := hc []
  simp only [Int.natCast_add, Int.cast_ofNat_Int] at hb0 hc0
  cases hbo : Sm.oks b (d + 1) with
  | false =>
    rw [hbo] at hb0
    simp [r_r16_Stmt_0, h1, h2, get0, hw, hb0]
  | true =>
    rw [hbo] at hb0
    simp [r_r16_Stmt_0, h1, h2, get0, hw, hb0, hc0]
theorem refStmt_mid (d : Nat) (hd : d ≤ 19500) (op n : Int) (s : List UInt8) (e : List Ex) (b c : List Sm) (g : Bool) (hs : s.length ≤ 300) (hbn : b.length ≤ 20000) (hE : Ex.oks e 8 = true) (hpo : exprs op = some e.length) (H : Heap) (hb : RbOK (d + 1) b) (hc : RbOK (d + 1) c) (φ : Fr) (h1 : Fr.get φ 1 = .int .i64 d) (h2 : Fr.get φ 2 = .ptr H.length 0) :
    M (eval tbl noExt) [.code r_r16_Stmt_1, .fin [.t 4] H.length] φ (H ++ [some [.int .i64 op, .str s, .int .i64 n, .sl 4 (Ex.rows e), .sl 7 (Sm.rows b), .sl 7 (Sm.rows c), .bool g]]) = some (.bool (shapeOk op s n e b c g && (txnOk op b && (Sm.oks b (d + 1) && Sm.oks c (d + 1)))), H) := by
  have hN := refName_eq s (by omega)
  have hbl : (Sm.rows b).length = b.length := by rw [Sm.rows_eq]; simp
  have hccl : (Sm.rows c).length = c.length := by rw [Sm.rows_eq]; simp
  have hend : ∀ φ, Fr.get φ 1 = .int .i64 d → Fr.get φ 2 = .ptr H.length 0 → Fr.get φ 10 = .int .i64 0 → (op = 16 → b.length ≤ 8) →
      M (eval tbl noExt) [.code l_r16_Stmt_1, .blk 2, .code r_r16_Stmt_0, .fin [.t 4] H.length] φ (H ++ [some [.int .i64 op, .str s, .int .i64 n, .sl 4 (Ex.rows e), .sl 7 (Sm.rows b), .sl 7 (Sm.rows c), .bool g]]) = some (.bool (txnOk op b && (Sm.oks b (d + 1) && Sm.oks c (d + 1))), H) := by
    intro φ h1 h2 h10 h8
    refine refStmt_txn d op H _ _ _ _ _ b hbn (fun o => o = some (.bool (txnOk op b && (Sm.oks b (d + 1) && Sm.oks c (d + 1))), H)) _ (fun φ' h16 h g => ?_) (fun φ' h g1 g2 => ?_) b.length 0 φ (by omega) (fun _ => rfl) h1 h2 h10
    · subst h16
      simp [txnOk, h, g]
    · rw [refStmt_tail d hd op H _ _ _ _ b c hb hc φ' g1 g2]
      by_cases h16 : op = 16
      · simp [txnOk, h16, h8 h16, h h16]
      · simp [txnOk, h16]
  generalize hL : (Sm.oks b (d + 1) && Sm.oks c (d + 1)) = last at hend ⊢
  simp only [shapeOk, hpo, hE, decide_true, Bool.true_and]
  by_cases h12 : op = 12
  · subst h12
    cases hna : isName s with
    | false =>
      rw [hna] at hN
      simp [r_r16_Stmt_1, h1, h2, get0, hbl, hccl, hN, hna]
    | true =>
    rw [hna] at hN
    have hs0 : ¬ s = [] := by rintro rfl; simp [isName] at hna
    by_cases hn1 : n < 0
    · have hn1b : ¬ 0 ≤ n := by omega
      have hn0 : ¬ n = 0 := by omega
      simp [r_r16_Stmt_1, h1, h2, get0, hbl, hccl, hN, hna, hs0, hn1, hn1b, hn0]
    have hn1b : 0 ≤ n := by omega
    by_cases hn2 : 16 < n
    · have hn2b : ¬ n ≤ 16 := by omega
      have hn0 : ¬ n = 0 := by omega
      simp [r_r16_Stmt_1, h1, h2, get0, hbl, hccl, hN, hna, hs0, hn1, hn1b, hn2, hn2b, hn0]
    have hn2b : n ≤ 16 := by omega
    by_cases hn0 : n = 0
    case neg => simp [r_r16_Stmt_1, h1, h2, get0, hbl, hccl, hN, hna, hs0, hn1, hn1b, hn2, hn2b, hn0]
    subst hn0
    cases g with
    | true => simp [r_r16_Stmt_1, h1, h2, get0, hbl, hccl, hN, hna, hs0]
    | false =>
    by_cases hb0 : b = []
    case neg =>
      have hb1 : 0 < b.length := List.length_pos_iff.2 hb0
      simp [r_r16_Stmt_1, h1, h2, get0, hbl, hccl, hN, hna, hs0, hb0, hb1]
    subst hb0
    by_cases hc0 : c = []
    case neg =>
      have hc1 : 0 < c.length := List.length_pos_iff.2 hc0
      simp [r_r16_Stmt_1, h1, h2, get0, hbl, hccl, hN, hna, hs0, hc0, hc1]
    subst hc0
    simp [r_r16_Stmt_1, h1, h2, get0, hbl, hccl, hN, hna, hs0]
    exact hend _ (by simp [h1]) (by simp [h2]) (by simp) (fun h => by omega)
  by_cases h13 : op = 13
  · subst h13
    by_cases hs0 : s = []
    case neg => simp [r_r16_Stmt_1, h1, h2, get0, hbl, hccl, hs0]
    subst hs0
    by_cases hn1 : n < 0
    · have hn1b : ¬ 0 ≤ n := by omega
      have hn0 : ¬ n = 0 := by omega
      simp [r_r16_Stmt_1, h1, h2, get0, hbl, hccl, hn1, hn1b, hn0]
    have hn1b : 0 ≤ n := by omega
    by_cases hn2 : 16 < n
    · have hn2b : ¬ n ≤ 16 := by omega
      have hn0 : ¬ n = 0 := by omega
      simp [r_r16_Stmt_1, h1, h2, get0, hbl, hccl, hn1, hn1b, hn2, hn2b, hn0]
    have hn2b : n ≤ 16 := by omega
    by_cases hn0 : n = 0
    case neg => simp [r_r16_Stmt_1, h1, h2, get0, hbl, hccl, hn1, hn1b, hn2, hn2b, hn0]
    subst hn0
    cases g with
    | true => simp [r_r16_Stmt_1, h1, h2, get0, hbl, hccl, ]
    | false =>
    simp [r_r16_Stmt_1, h1, h2, get0, hbl, hccl, ]
    exact hend _ (by simp [h1]) (by simp [h2]) (by simp) (fun h => by omega)
  by_cases h14 : op = 14
  · subst h14
    by_cases hs0 : s = []
    case neg => simp [r_r16_Stmt_1, h1, h2, get0, hbl, hccl, hs0]
    subst hs0
    by_cases hn1 : n < 0
    · have hn1b : ¬ 0 ≤ n := by omega
      have hn0 : ¬ n = 0 := by omega
      simp [r_r16_Stmt_1, h1, h2, get0, hbl, hccl, hn1, hn1b, hn0]
    have hn1b : 0 ≤ n := by omega
    by_cases hn2 : 16 < n
    · have hn2b : ¬ n ≤ 16 := by omega
      have hn0 : ¬ n = 0 := by omega
      simp [r_r16_Stmt_1, h1, h2, get0, hbl, hccl, hn1, hn1b, hn2, hn2b, hn0]
    have hn2b : n ≤ 16 := by omega
    by_cases hn0 : n = 0
    · subst hn0
      cases g with
      | true => simp [r_r16_Stmt_1, h1, h2, get0, hbl, hccl, ]
      | false =>
      by_cases hc0 : c = []
      case neg =>
        have hc1 : 0 < c.length := List.length_pos_iff.2 hc0
        simp [r_r16_Stmt_1, h1, h2, get0, hbl, hccl, hc0, hc1]
      subst hc0
      simp [r_r16_Stmt_1, h1, h2, get0, hbl, hccl, ]
      exact hend _ (by simp [h1]) (by simp [h2]) (by simp) (fun h => by omega)
    cases g with
    | true => simp [r_r16_Stmt_1, h1, h2, get0, hbl, hccl, hn1, hn1b, hn2, hn2b, hn0]
    | false =>
    by_cases hc0 : c = []
    case neg =>
      have hc1 : 0 < c.length := List.length_pos_iff.2 hc0
      simp [r_r16_Stmt_1, h1, h2, get0, hbl, hccl, hn1, hn1b, hn2, hn2b, hn0, hc0, hc1]
    subst hc0
    simp [r_r16_Stmt_1, h1, h2, get0, hbl, hccl, hn1, hn1b, hn2, hn2b, hn0]
    exact hend _ (by simp [h1]) (by simp [h2]) (by simp) (fun h => by omega)
  by_cases h15 : op = 15
  · subst h15
    cases hna : isName s with
    | false =>
      rw [hna] at hN
      simp [r_r16_Stmt_1, h1, h2, get0, hbl, hccl, hN, hna]
    | true =>
    rw [hna] at hN
    have hs0 : ¬ s = [] := by rintro rfl; simp [isName] at hna
    by_cases hn1 : n < 0
    · have hn1b : ¬ 0 ≤ n := by omega
      have hn0 : ¬ n = 0 := by omega
      simp [r_r16_Stmt_1, h1, h2, get0, hbl, hccl, hN, hna, hs0, hn1, hn1b, hn0]
    have hn1b : 0 ≤ n := by omega
    by_cases hn2 : 16 < n
    · have hn2b : ¬ n ≤ 16 := by omega
      have hn0 : ¬ n = 0 := by omega
      simp [r_r16_Stmt_1, h1, h2, get0, hbl, hccl, hN, hna, hs0, hn1, hn1b, hn2, hn2b, hn0]
    have hn2b : n ≤ 16 := by omega
    by_cases hn0 : n = 0
    case neg => simp [r_r16_Stmt_1, h1, h2, get0, hbl, hccl, hN, hna, hs0, hn1, hn1b, hn2, hn2b, hn0]
    subst hn0
    cases g with
    | true => simp [r_r16_Stmt_1, h1, h2, get0, hbl, hccl, hN, hna, hs0]
    | false =>
    by_cases hb0 : b = []
    case neg =>
      have hb1 : 0 < b.length := List.length_pos_iff.2 hb0
      simp [r_r16_Stmt_1, h1, h2, get0, hbl, hccl, hN, hna, hs0, hb0, hb1]
    subst hb0
    by_cases hc0 : c = []
    case neg =>
      have hc1 : 0 < c.length := List.length_pos_iff.2 hc0
      simp [r_r16_Stmt_1, h1, h2, get0, hbl, hccl, hN, hna, hs0, hc0, hc1]
    subst hc0
    simp [r_r16_Stmt_1, h1, h2, get0, hbl, hccl, hN, hna, hs0]
    exact hend _ (by simp [h1]) (by simp [h2]) (by simp) (fun h => by omega)
  by_cases h16 : op = 16
  · subst h16
    by_cases hs0 : s = []
    case neg => simp [r_r16_Stmt_1, h1, h2, get0, hbl, hccl, hs0]
    subst hs0
    by_cases hn1 : n < 0
    · have hn1b : ¬ 0 ≤ n := by omega
      have hn0 : ¬ n = 0 := by omega
      simp [r_r16_Stmt_1, h1, h2, get0, hbl, hccl, hn1, hn1b, hn0]
    have hn1b : 0 ≤ n := by omega
    by_cases hn2 : 16 < n
    · have hn2b : ¬ n ≤ 16 := by omega
      have hn0 : ¬ n = 0 := by omega
      simp [r_r16_Stmt_1, h1, h2, get0, hbl, hccl, hn1, hn1b, hn2, hn2b, hn0]
    have hn2b : n ≤ 16 := by omega
    by_cases hn0 : n = 0
    case neg => simp [r_r16_Stmt_1, h1, h2, get0, hbl, hccl, hn1, hn1b, hn2, hn2b, hn0]
    subst hn0
    cases g with
    | true =>
      by_cases hc0 : c = []
      case neg =>
        have hc1 : 0 < c.length := List.length_pos_iff.2 hc0
        simp [r_r16_Stmt_1, h1, h2, get0, hbl, hccl, hc0, hc1]
      subst hc0
      by_cases hb8 : b.length ≤ 8
      case neg =>
        have hb8' : (8 : Int) < b.length := by omega
        simp [r_r16_Stmt_1, h1, h2, get0, hbl, hccl, hb8, hb8', txnOk]
      have hb8' : ¬ (8 : Int) < b.length := by omega
      simp [r_r16_Stmt_1, h1, h2, get0, hbl, hccl, hb8, hb8']
      exact hend _ (by simp [h1]) (by simp [h2]) (by simp) (fun _ => hb8)
    | false =>
      by_cases hc0 : c = []
      case neg =>
        have hc1 : 0 < c.length := List.length_pos_iff.2 hc0
        simp [r_r16_Stmt_1, h1, h2, get0, hbl, hccl, hc0, hc1]
      subst hc0
      by_cases hb8 : b.length ≤ 8
      case neg =>
        have hb8' : (8 : Int) < b.length := by omega
        simp [r_r16_Stmt_1, h1, h2, get0, hbl, hccl, hb8, hb8', txnOk]
      have hb8' : ¬ (8 : Int) < b.length := by omega
      simp [r_r16_Stmt_1, h1, h2, get0, hbl, hccl, hb8, hb8']
      exact hend _ (by simp [h1]) (by simp [h2]) (by simp) (fun _ => hb8)
  by_cases hs0 : s = []
  case neg => simp [r_r16_Stmt_1, h1, h2, get0, hbl, hccl, h12, h13, h14, h15, h16, hs0]
  subst hs0
  by_cases hn1 : n < 0
  · have hn1b : ¬ 0 ≤ n := by omega
    have hn0 : ¬ n = 0 := by omega
    simp [r_r16_Stmt_1, h1, h2, get0, hbl, hccl, h12, h13, h14, h15, h16, hn1, hn1b, hn0]
  have hn1b : 0 ≤ n := by omega
  by_cases hn2 : 16 < n
  · have hn2b : ¬ n ≤ 16 := by omega
    have hn0 : ¬ n = 0 := by omega
    simp [r_r16_Stmt_1, h1, h2, get0, hbl, hccl, h12, h13, h14, h15, h16, hn1, hn1b, hn2, hn2b, hn0]
  have hn2b : n ≤ 16 := by omega
  by_cases hn0 : n = 0
  case neg => simp [r_r16_Stmt_1, h1, h2, get0, hbl, hccl, h12, h13, h14, h15, h16, hn1, hn1b, hn2, hn2b, hn0]
  subst hn0
  cases g with
  | true => simp [r_r16_Stmt_1, h1, h2, get0, hbl, hccl, h12, h13, h14, h15, h16]
  | false =>
  by_cases hb0 : b = []
  case neg =>
    have hb1 : 0 < b.length := List.length_pos_iff.2 hb0
    simp [r_r16_Stmt_1, h1, h2, get0, hbl, hccl, h12, h13, h14, h15, h16, hb0, hb1]
  subst hb0
  by_cases hc0 : c = []
  case neg =>
    have hc1 : 0 < c.length := List.length_pos_iff.2 hc0
    simp [r_r16_Stmt_1, h1, h2, get0, hbl, hccl, h12, h13, h14, h15, h16, hc0, hc1]
  subst hc0
  simp [r_r16_Stmt_1, h1, h2, get0, hbl, hccl, h12, h13, h14, h15, h16]
  exact hend _ (by simp [h1]) (by simp [h2]) (by simp) (fun h => by omega)
theorem refStmt_step (d : Nat) (hd : d ≤ 19500) (op n : Int) (s : List UInt8) (x : List Ex) (b c : List Sm) (g : Bool) (hs : s.length ≤ 300) (hl : x.length ≤ 20000) (hbl : b.length ≤ 20000) (hx : ∀ e ∈ x, RxOK 8 e) (hb : RbOK (d + 1) b) (hc : RbOK (d + 1) c) : RsOK d (.mk op s n x b c g) := by
  intro H
  have hP := refExprs_eq op
  have hcl : (Ex.rows x).length = x.length := by rw [Ex.rows_eq]; simp
  simp only [Sm.cells, Sm.ok]
  rw [eval_M rfl rfl t_r16_Stmt rfl]
  cases hpo : exprs op with
  | none =>
    rw [hpo] at hP
    simp [c_r16_Stmt, hP, tup, get0, shapeOk, hpo]
  | some k =>
  rw [hpo] at hP
  by_cases h8 : d ≤ 8
  case neg =>
    have h8' : (8 : Int) < d := by omega
    simp [c_r16_Stmt, hP, tup, get0, h8, h8']
  have h8' : ¬ (8 : Int) < d := by omega
  by_cases hk : x.length = k
  case neg =>
    have hk' : ¬ (x.length : Int) = k := by omega
    simp [c_r16_Stmt, hP, tup, get0, h8, h8', hcl, hk, hk', shapeOk, hpo]
  subst hk
  generalize hR : (decide (d ≤ 8) && (shapeOk op s n x b c g && (txnOk op b && (Sm.oks b (d + 1) && Sm.oks c (d + 1))))) = R
  simp only [h8, decide_true, Bool.true_and] at hR
  simp [c_r16_Stmt, hP, tup, get0, h8', hcl]
  refine refStmt_exprs d H _ _ _ _ _ _ x hl hx (fun o => o = some (.bool R, H)) _ (fun φ' h g => ?_) (fun φ' h g1 g2 => ?_) x.length 0 _ (by omega) rfl (by simp) (by simp) (by simp) (by simp)
  · have : R = false := by rw [← hR]; simp [shapeOk, hpo, h]
    rw [this]; simp [g]
  · rw [← hR]
    exact refStmt_mid d hd op n s x b c g hs hbl h hpo H hb hc φ' g1 g2
theorem exs_ref {n : Nat} (hn : n ≤ 20000) {x : List Ex} (hx : Ex.sizes x ≤ n) (ht : Ex.txts x) : ∀ e ∈ x, RxOK 8 e := by
  intro e he
  have hm := Ex.sizes_mem he
  refine expr_ref n e (by omega) hn ?_ 8 (by omega)
  induction x with
  | nil => simp at he
  | cons y l ih =>
    rcases List.mem_cons.1 he with rfl | he
    · exact ht.1
    · exact ih (by simp only [Ex.sizes] at hx; omega) ht.2 he (Ex.sizes_mem he)
theorem stmt_ref : ∀ (n : Nat) (l : List Sm), Sm.sizes l ≤ n → n ≤ 19500 → Sm.txts l → ∀ d, d + n ≤ 19500 → RbOK d l := by
  intro n
  induction n with
  | zero =>
    intro l h hn ht d hd
    have : l = [] := by
      cases l with
      | nil => rfl
      | cons e l => cases e; simp only [Sm.sizes, Sm.size] at h; omega
    subst this
    exact refBlock_step d (by omega) [] (by simp) (by simp)
  | succ n ih =>
    intro l h hn ht d hd
    have hll := Sm.sizes_ge l
    have hall : ∀ e ∈ l, RsOK d e := by
      intro e he
      have hm := Sm.sizes_mem he
      have het : e.txt := by
        clear h hll hm
        induction l with
        | nil => simp at he
        | cons y l ih2 =>
          rcases List.mem_cons.1 he with rfl | he
          · exact ht.1
          · exact ih2 ht.2 he
      obtain ⟨op, s, m, x, b, c, g⟩ := e
      simp only [Sm.size] at hm
      simp only [Sm.txt] at het
      have hbl := Sm.sizes_ge b
      have hxl := Ex.sizes_ge x
      have hx := exs_ref (n := 19500) (by omega) (x := x) (by omega) het.2.1
      have hb := ih b (by omega) (by omega) het.2.2.1 (d + 1) (by omega)
      have hc := ih c (by omega) (by omega) het.2.2.2 (d + 1) (by omega)
      exact refStmt_step d (by omega) op m s x b c g het.1 (by omega) (by omega) (fun e he => hx e he) hb hc
    exact refBlock_step d (by omega) l (by omega) (fun e he => hall e he)
theorem Pg.Fine.rproc {p : Pg} (h : p.Fine) {x : List UInt8 × List Sm} (hx : x ∈ p.procs) : RbOK 1 x.2 := by
  have hs := p.parts_size
  have hm : x.2 ∈ p.parts := by simp only [Pg.parts, List.mem_append, List.mem_map]; exact .inl ⟨x, hx, rfl⟩
  have := sizes_flatten hm
  have := h.size
  exact stmt_ref 19000 x.2 (by omega) (by omega) (h.txt.1 x hx).2 1 (by omega)
theorem Pg.Fine.rmain {p : Pg} (h : p.Fine) : RbOK 1 p.main := by
  have := h.size
  exact stmt_ref 19000 p.main (by simp only [Pg.size] at this; omega) (by omega) h.txt.2.1 1 (by omega)
theorem Pg.Fine.rrecover {p : Pg} (h : p.Fine) : RbOK 1 p.recover := by
  have := h.size
  exact stmt_ref 19000 p.recover (by simp only [Pg.size] at this; omega) (by omega) h.txt.2.2.1 1 (by omega)
theorem Pg.Fine.roracle {p : Pg} (h : p.Fine) {x : List UInt8 × Ex} (hx : x ∈ p.oracles) : RxOK 8 x.2 := by
  have hs := p.size_eq
  have hm : x.2 ∈ p.exprs := by simp only [Pg.exprs, List.mem_map]; exact ⟨x, hx, rfl⟩
  have := Ex.sizes_mem hm
  have := h.size
  exact expr_ref 19000 x.2 (by omega) (by omega) (h.txt.2.2.2 x hx).2 8 (by omega)
theorem refRight_procs (p : Pg) (h : p.Fine) (H : Heap) (Q : Option (V × Heap) → Prop) (k : List Item)
    (hret : ∀ φ', (p.procs.all fun x => isName x.1 && Sm.oks x.2 1) = false → Fr.get φ' 2 = .bool false → Q (retK k φ' (H ++ [some p.cells])))
    (hexit : ∀ φ', (p.procs.all fun x => isName x.1 && Sm.oks x.2 1) = true → Fr.get φ' 1 = .ptr H.length 0 → Q (M (eval tbl noExt) k φ' (H ++ [some p.cells]))) :
    ∀ (j i : Nat) (φ : Fr), i + j = p.procs.length → (p.procs.all fun x => isName x.1 && Sm.oks x.2 1) = ((p.procs.drop i).all fun x => isName x.1 && Sm.oks x.2 1) → Fr.get φ 1 = .ptr H.length 0 → Fr.get φ 3 = .int .i64 i →
      Q (M (eval tbl noExt) (.code l_r16_Right_0 :: .blk 0 :: k) φ (H ++ [some p.cells])) := by
  have hcl := p.pcells_len
  have hl := p.lens h.size
  simp only [Pg.cells] at hret hexit ⊢
  intro j
  induction j with
  | zero =>
    intro i φ hj hs h1 h3
    have hi : ¬ ((i : Int) < p.procs.length) := by omega
    rw [List.drop_of_length_le (by omega)] at hs
    rw [l_r16_Right_0, M_loop, ← l_r16_Right_0]
    simp [b_r16_Right_0, h1, h3, hcl, hi, get0]
    exact hexit _ (by rw [hs]; rfl) (by simp [h1])
  | succ j ih =>
    intro i φ hj hs h1 h3
    have hi : (i : Int) < p.procs.length := by omega
    have hil : i < p.procs.length := by omega
    obtain ⟨x, hx, hmem, hdr⟩ := at_some hil
    have hrow := p.prow hx
    have hw1 : IntKind.i64.wrap ((i : Int) + 1) = ((i + 1 : Nat) : Int) := by rw [w64 (by omega) (by omega)]; rfl
    rw [hdr, List.all_cons] at hs
    have hN := refName_eq x.1 (by have := (h.txt.1 x hmem).1; omega)
    have hB := (h.rproc hmem) []
    simp only [Int.cast_ofNat_Int] at hB
    rw [l_r16_Right_0, M_loop, ← l_r16_Right_0]
    cases hn : isName x.1 with
    | false =>
      rw [hn, Bool.false_and, Bool.false_and] at hs
      rw [hn] at hN
      simp [b_r16_Right_0, h1, h3, hi, hcl, hrow, get0, hN]
      exact hret _ hs (by simp)
    | true =>
      rw [hn, Bool.true_and] at hs
      rw [hn] at hN
      cases hb : Sm.oks x.2 1 with
      | false =>
        rw [hb, Bool.false_and] at hs
        rw [hb] at hB
        simp [b_r16_Right_0, h1, h3, hi, hcl, hrow, get0, hN, hB]
        exact hret _ hs (by simp)
      | true =>
        rw [hb, Bool.true_and] at hs
        rw [hb] at hB
        simp [b_r16_Right_0, h1, h3, hi, hcl, hrow, get0, hN, hB, hw1]
        exact ih (i + 1) _ (by omega) hs (by simp [h1]) (by simp)
theorem refRight_oracles (p : Pg) (h : p.Fine) (H : Heap) (Q : Option (V × Heap) → Prop) (k : List Item)
    (hret : ∀ φ', (p.oracles.all fun x => isName x.1 && x.2.ok 8) = false → Fr.get φ' 2 = .bool false → Q (retK k φ' (H ++ [some p.cells])))
    (hexit : ∀ φ', (p.oracles.all fun x => isName x.1 && x.2.ok 8) = true → Fr.get φ' 1 = .ptr H.length 0 → Q (M (eval tbl noExt) k φ' (H ++ [some p.cells]))) :
    ∀ (j i : Nat) (φ : Fr), i + j = p.oracles.length → (p.oracles.all fun x => isName x.1 && x.2.ok 8) = ((p.oracles.drop i).all fun x => isName x.1 && x.2.ok 8) → Fr.get φ 1 = .ptr H.length 0 → Fr.get φ 4 = .int .i64 i →
      Q (M (eval tbl noExt) (.code l_r16_Right_1 :: .blk 2 :: k) φ (H ++ [some p.cells])) := by
  have hcl := p.ocells_len
  have hl := p.lens h.size
  simp only [Pg.cells] at hret hexit ⊢
  intro j
  induction j with
  | zero =>
    intro i φ hj hs h1 h4
    have hi : ¬ ((i : Int) < p.oracles.length) := by omega
    rw [List.drop_of_length_le (by omega)] at hs
    rw [l_r16_Right_1, M_loop, ← l_r16_Right_1]
    simp [b_r16_Right_1, h1, h4, hcl, hi, get0]
    exact hexit _ (by rw [hs]; rfl) (by simp [h1])
  | succ j ih =>
    intro i φ hj hs h1 h4
    have hi : (i : Int) < p.oracles.length := by omega
    have hil : i < p.oracles.length := by omega
    obtain ⟨x, hx, hmem, hdr⟩ := at_some hil
    have hrow := Pg.orow hx
    have hw1 : IntKind.i64.wrap ((i : Int) + 1) = ((i + 1 : Nat) : Int) := by rw [w64 (by omega) (by omega)]; rfl
    rw [hdr, List.all_cons] at hs
    have hN := refName_eq x.1 (by have := (h.txt.2.2.2 x hmem).1; omega)
    have hB := (h.roracle hmem) []
    obtain ⟨s, e⟩ := x
    obtain ⟨op, n, t, y⟩ := e
    simp only [Ex.cells, Int.cast_ofNat_Int] at hB hrow hN hs
    rw [l_r16_Right_1, M_loop, ← l_r16_Right_1]
    cases hn : isName s with
    | false =>
      rw [hn, Bool.false_and, Bool.false_and] at hs
      rw [hn] at hN
      simp [b_r16_Right_1, h1, h4, hi, hcl, hrow, get0, hN]
      exact hret _ hs (by simp)
    | true =>
      rw [hn, Bool.true_and] at hs
      rw [hn] at hN
      cases hb : (Ex.mk op n t y).ok 8 with
      | false =>
        rw [hb, Bool.false_and] at hs
        rw [hb] at hB
        simp [b_r16_Right_1, h1, h4, hi, hcl, hrow, get0, hN, hB]
        exact hret _ hs (by simp)
      | true =>
        rw [hb, Bool.true_and] at hs
        rw [hb] at hB
        simp [b_r16_Right_1, h1, h4, hi, hcl, hrow, get0, hN, hB, hw1]
        exact ih (i + 1) _ (by omega) hs (by simp [h1]) (by simp)
theorem refRight_eq (p : Pg) (h : p.Fine) (hs1 : p.size ≤ 1000) (H : Heap) : eval tbl noExt n_r16_Right [.agg p.cells] H = some (.bool p.ok, H) := by
  have hl := p.lens h.size
  have hsz := h.size
  have ha := refAll_eq p (by omega)
  have hfl : (Sm.rows p.flats).length = p.flats.length := by rw [Sm.rows_eq]; simp
  have hpl := p.pcells_len
  have hol := p.ocells_len
  have hM := h.rmain []
  have hR := h.rrecover []
  have loop1 := refRight_procs p h H
  have loop2 := refRight_oracles p h H
  simp only [Pg.ok]
  rw [eval_M rfl rfl t_r16_Right rfl]
  by_cases c1 : p.procs.length ≤ 16
  case neg =>
    have c1' : (16 : Int) < p.procs.length := by omega
    simp [c_r16_Right, Pg.cells, get0, hpl, hol, c1, c1']
  have c1' : ¬ (16 : Int) < p.procs.length := by omega
  by_cases c2 : p.oracles.length ≤ 16
  case neg =>
    have c2' : (16 : Int) < p.oracles.length := by omega
    simp [c_r16_Right, Pg.cells, get0, hpl, hol, c1, c1', c2, c2']
  have c2' : ¬ (16 : Int) < p.oracles.length := by omega
  simp only [Pg.cells] at ha
  by_cases c3 : p.flats.length ≤ 256
  case neg =>
    have c3' : (256 : Int) < p.flats.length := by omega
    simp [c_r16_Right, Pg.cells, get0, hpl, hol, c1, c1', c2, c2', ha, hfl, c3, c3']
  have c3' : ¬ (256 : Int) < p.flats.length := by omega
  simp only [c1, c2, c3, decide_true, Bool.true_and]
  generalize hres : ((p.procs.all fun x => isName x.1 && Sm.oks x.2 1) && ((p.oracles.all fun x => isName x.1 && x.2.ok 8) && (Sm.oks p.main 1 && Sm.oks p.recover 1))) = R
  simp [c_r16_Right, Pg.cells, get0, hpl, hol, c1', c2', ha, hfl, c3']
  simp only [Pg.cells] at loop1 loop2
  refine loop1 (fun o => o = some (.bool R, H)) _ (fun φ' e g => ?_) (fun φ' e g1 => ?_) p.procs.length 0 _ (by omega) rfl (by simp) (by simp)
  · rw [e, Bool.false_and] at hres; subst hres; simp [g]
  · rw [e, Bool.true_and] at hres
    simp [r_r16_Right_1]
    refine loop2 (fun o => o = some (.bool R, H)) _ (fun φ'' e2 g => ?_) (fun φ'' e2 g2 => ?_) p.oracles.length 0 _ (by omega) rfl (by simp [g1]) (by simp)
    · rw [e2, Bool.false_and] at hres; subst hres; simp [g]
    · rw [e2, Bool.true_and] at hres
      simp only [Int.cast_ofNat_Int] at hM hR
      cases hm : Sm.oks p.main 1 with
      | false =>
        rw [hm] at hM hres
        rw [Bool.false_and] at hres; subst hres
        simp [r_r16_Right_0, g2, get0, hM]
      | true =>
        rw [hm] at hM hres
        rw [Bool.true_and] at hres
        rw [hres] at hR
        simp [r_r16_Right_0, g2, get0, hM, hR]
end Go.AM.Spec
namespace Go.AM.Spec
set_option linter.unusedVariables false
set_option linter.unusedSimpArgs false
set_option maxHeartbeats 1000000
def SzE (e : Ex) : Prop := ∀ left : Int, -1000 ≤ left → left ≤ 1000 → ∃ r : Int, eval tbl noExt n_r16_expr [.agg e.cells, .int .i64 left] [] = some (.int .i64 r, []) ∧ -1000 ≤ r ∧ r ≤ 1001 ∧ (r ≤ left → r = e.size ∧ e.txt)
def SzB (l : List Sm) : Prop := ∀ left : Int, -1000 ≤ left → left ≤ 1000 → ∃ r : Int, eval tbl noExt n_r16_block [.sl 7 (Sm.rows l), .int .i64 left] [] = some (.int .i64 r, []) ∧ -1000 ≤ r ∧ r ≤ 1001 ∧ (r ≤ left → r = Sm.sizes l ∧ Sm.txts l)
theorem wi {n : Int} (h1 : -100000 ≤ n) (h2 : n ≤ 100000) : IntKind.i64.wrap n = n := w64 (by omega) (by omega)
theorem expr_loop (a0 a1 a2 : V) (l : List Ex) (left : Int) (h1l : left ≤ 1000) (hf : ∀ e ∈ l, SzE e) (Q : Option (V × Heap) → Prop) (k : List Item)
    (hret : ∀ φ', Fr.get φ' 4 = .int .i64 (left + 1) → Q (retK k φ' [some [a0, a1, a2, .sl 4 (Ex.rows l)]]))
    (hexit : ∀ φ', Fr.get φ' 5 = .int .i64 (1 + Ex.sizes l) → 1 + (Ex.sizes l : Int) ≤ left → Ex.txts l → Q (M (eval tbl noExt) k φ' [some [a0, a1, a2, .sl 4 (Ex.rows l)]])) :
    ∀ (j i : Nat) (φ : Fr), i + j = l.length → 1 + (Ex.sizes (l.take i) : Int) ≤ left → Ex.txts (l.take i) → Fr.get φ 1 = .int .i64 left → Fr.get φ 2 = .ptr 0 0 → Fr.get φ 5 = .int .i64 (1 + Ex.sizes (l.take i)) → Fr.get φ 6 = .int .i64 i →
      Q (M (eval tbl noExt) (.code l_r16_expr_0 :: .blk 0 :: k) φ [some [a0, a1, a2, .sl 4 (Ex.rows l)]]) := by
  intro j
  induction j with
  | zero =>
    intro i φ hj hle ht h1 h2 h5 h6
    have hi : ¬ ((i : Int) < l.length) := by omega
    rw [List.take_of_length_le (by omega)] at hle ht h5
    rw [l_r16_expr_0, M_loop, ← l_r16_expr_0]
    simp [b_r16_expr_0, h1, h2, h5, h6, hi, Ex.rows_len]
    exact hexit _ (by simp [h5]) hle ht
  | succ j ih =>
    intro i φ hj hle ht h1 h2 h5 h6
    have hi : (i : Int) < l.length := by omega
    obtain ⟨e, he, hmem, hd⟩ := at_some (l := l) (i := i) (by omega)
    have hre := Ex.rows_at he
    have hi2 := Ex.sizes_ge (l.take i)
    rw [List.length_take, Nat.min_eq_left (by omega)] at hi2
    have hw : IntKind.i64.wrap ((i : Int) + 1) = ((i + 1 : Nat) : Int) := by rw [wi (by omega) (by omega)]; rfl
    obtain ⟨r, hr, hr0, hr1, hr2⟩ := hf e hmem (left - (1 + Ex.sizes (l.take i))) (by omega) (by omega)
    obtain ⟨c0, c1, c2, c3, hc⟩ := e.cells_shape
    rw [hc] at hr hre
    have hw1 : IntKind.i64.wrap (left - (1 + (Ex.sizes (l.take i) : Int))) = left - (1 + (Ex.sizes (l.take i) : Int)) := wi (by omega) (by omega)
    have hw2 : IntKind.i64.wrap (1 + (Ex.sizes (l.take i) : Int) + r) = 1 + (Ex.sizes (l.take i) : Int) + r := wi (by omega) (by omega)
    have hw3 : IntKind.i64.wrap (left + 1) = left + 1 := wi (by omega) (by omega)
    have hnext := take_next he
    rw [l_r16_expr_0, M_loop, ← l_r16_expr_0]
    by_cases hgt : left < 1 + (Ex.sizes (l.take i) : Int) + r
    · simp [b_r16_expr_0, h1, h2, h5, h6, hi, Ex.rows_len, hre, hw1, hr, hw2, hgt, hw3]
      exact hret _ (by simp)
    · obtain ⟨hr3, hr4⟩ := hr2 (by omega)
      have hsz : 1 + (Ex.sizes (l.take i) : Int) + r = 1 + (Ex.sizes (l.take (i + 1)) : Int) := by
        rw [hnext, Ex.sizes_append]; simp only [Ex.sizes]; omega
      simp [b_r16_expr_0, h1, h2, h5, h6, hi, Ex.rows_len, hre, hw1, hr, hw2, hgt, hw]
      refine ih (i + 1) _ (by omega) (by omega) (by rw [hnext, Ex.txts_append]; exact ⟨ht, hr4, trivial⟩) (by simp [h1]) (by simp [h2]) (by simp [hsz]) (by simp)
theorem expr_ok : ∀ (n : Nat) (e : Ex), e.size ≤ n → SzE e := by
  intro n
  induction n with
  | zero => intro e h; cases e; simp only [Ex.size] at h; omega
  | succ n ih =>
    intro e h left hl0 hl1
    obtain ⟨op, w, s, x⟩ := e
    simp only [Ex.size] at h
    have hw3 : IntKind.i64.wrap (left + 1) = left + 1 := wi (by omega) (by omega)
    rw [eval_M rfl rfl t_r16_expr rfl]
    by_cases h1 : left < 1
    · refine ⟨left + 1, ?_, by omega, by omega, fun h => by omega⟩
      simp [c_r16_expr, Ex.cells, h1, hw3]
    · by_cases h2 : 300 < s.length
      · have h2' : (300 : Int) < s.length := by omega
        refine ⟨left + 1, ?_, by omega, by omega, fun h => by omega⟩
        simp [c_r16_expr, Ex.cells, h1, h2', hw3]
      · have h2' : ¬ (300 : Int) < s.length := by omega
        simp [c_r16_expr, Ex.cells, h1, h2']
        refine expr_loop _ _ _ x left hl1 (fun e he => ih e (by have := Ex.sizes_mem he; omega)) (fun o => ∃ r : Int, o = some (.int .i64 r, []) ∧ -1000 ≤ r ∧ r ≤ 1001 ∧ (r ≤ left → r = (Ex.mk op w s x).size ∧ (Ex.mk op w s x).txt)) _ (fun φ' g => ?_) (fun φ' g hle ht => ?_) x.length 0 _ (by omega) (by simp [Ex.sizes]; omega) (by simp [Ex.txts]) (by simp) (by simp) (by simp [Ex.sizes]) (by simp)
        · exact ⟨left + 1, by simp [g], by omega, by omega, fun h => by omega⟩
        · refine ⟨1 + Ex.sizes x, by simp [r_r16_expr_0, g], by omega, by omega, fun h => ⟨by simp [Ex.size], ?_⟩⟩
          simp only [Ex.txt]
          exact ⟨by omega, ht⟩
theorem block_inner (l : List Sm) (i0 : Nat) (op : Int) (s : List UInt8) (w : Int) (x : List Ex) (b c : List Sm) (g : Bool) (hi0 : (i0 : Int) < l.length) (hrow : (Sm.rows l)[i0]? = some (Sm.cells (.mk op s w x b c g))) (left n0 : Int) (hl0 : -1000 ≤ left) (h1l : left ≤ 1000) (hn0 : 0 ≤ n0) (Q : Option (V × Heap) → Prop) (k : List Item)
    (hret : ∀ φ', Fr.get φ' 4 = .int .i64 (left + 1) → Q (retK k φ' []))
    (hexit : ∀ φ', Fr.get φ' 0 = .sl 7 (Sm.rows l) → Fr.get φ' 1 = .int .i64 left → Fr.get φ' 6 = .int .i64 i0 → Fr.get φ' 5 = .int .i64 (n0 + Ex.sizes x) → n0 + (Ex.sizes x : Int) ≤ left → Ex.txts x → Q (M (eval tbl noExt) k φ' [])) :
    ∀ (j i : Nat) (φ : Fr), i + j = x.length → n0 + (Ex.sizes (x.take i) : Int) ≤ left → Ex.txts (x.take i) → Fr.get φ 0 = .sl 7 (Sm.rows l) → Fr.get φ 1 = .int .i64 left → Fr.get φ 6 = .int .i64 i0 → Fr.get φ 5 = .int .i64 (n0 + Ex.sizes (x.take i)) → Fr.get φ 7 = .int .i64 i →
      Q (M (eval tbl noExt) (.code l_r16_block_0 :: .blk 2 :: k) φ []) := by
  simp only [Sm.cells] at hrow
  intro j
  induction j with
  | zero =>
    intro i φ hj hle ht h0 h1 h6 h5 h7
    have hi : ¬ ((i : Int) < x.length) := by omega
    rw [List.take_of_length_le (by omega)] at hle ht h5
    rw [l_r16_block_0, M_loop, ← l_r16_block_0]
    simp [b_r16_block_0, h0, h1, h5, h6, h7, hi, hi0, hrow, Ex.rows_len, Sm.rows_len]
    exact hexit _ (by simp [h0]) (by simp [h1]) (by simp [h6]) (by simp [h5]) hle ht
  | succ j ih =>
    intro i φ hj hle ht h0 h1 h6 h5 h7
    have hi : (i : Int) < x.length := by omega
    obtain ⟨e, he, hmem, hd⟩ := at_some (l := x) (i := i) (by omega)
    have hre := Ex.rows_at he
    have hi2 := Ex.sizes_ge (x.take i)
    rw [List.length_take, Nat.min_eq_left (by omega)] at hi2
    have hw : IntKind.i64.wrap ((i : Int) + 1) = ((i + 1 : Nat) : Int) := by rw [wi (by omega) (by omega)]; rfl
    obtain ⟨r, hr, hr0, hr1, hr2⟩ := expr_ok e.size e (Nat.le_refl _) (left - (n0 + Ex.sizes (x.take i))) (by omega) (by omega)
    obtain ⟨c0, c1, c2, c3, hc⟩ := e.cells_shape
    rw [hc] at hr hre
    have hw1 : IntKind.i64.wrap (left - (n0 + (Ex.sizes (x.take i) : Int))) = left - (n0 + (Ex.sizes (x.take i) : Int)) := wi (by omega) (by omega)
    have hw2 : IntKind.i64.wrap (n0 + (Ex.sizes (x.take i) : Int) + r) = n0 + (Ex.sizes (x.take i) : Int) + r := wi (by omega) (by omega)
    have hw3 : IntKind.i64.wrap (left + 1) = left + 1 := wi (by omega) (by omega)
    have hnext := take_next he
    rw [l_r16_block_0, M_loop, ← l_r16_block_0]
    by_cases hgt : left < n0 + (Ex.sizes (x.take i) : Int) + r
    · simp [b_r16_block_0, h0, h1, h5, h6, h7, hi, hi0, hrow, Ex.rows_len, Sm.rows_len, hre, hw1, hr, hw2, hgt, hw3]
      exact hret _ (by simp)
    · obtain ⟨hr3, hr4⟩ := hr2 (by omega)
      have hsz : n0 + (Ex.sizes (x.take i) : Int) + r = n0 + (Ex.sizes (x.take (i + 1)) : Int) := by
        rw [hnext, Ex.sizes_append]; simp only [Ex.sizes]; omega
      simp [b_r16_block_0, h0, h1, h5, h6, h7, hi, hi0, hrow, Ex.rows_len, Sm.rows_len, hre, hw1, hr, hw2, hgt, hw]
      refine ih (i + 1) _ (by omega) (by omega) (by rw [hnext, Ex.txts_append]; exact ⟨ht, hr4, trivial⟩) (by simp [h0]) (by simp [h1]) (by simp [h6]) (by simp [hsz]) (by simp)
theorem sblock_loop (l : List Sm) (left : Int) (hl0 : -1000 ≤ left) (h1l : left ≤ 1000) (hf : ∀ e ∈ l, ∀ b ∈ e.blocks, SzB b) (Q : Option (V × Heap) → Prop) (k : List Item)
    (hret : ∀ φ', Fr.get φ' 4 = .int .i64 (left + 1) → Q (retK k φ' []))
    (hexit : ∀ φ', Fr.get φ' 5 = .int .i64 (Sm.sizes l) → (Sm.sizes l : Int) ≤ 1000 → Sm.txts l → Q (M (eval tbl noExt) k φ' [])) :
    ∀ (j i : Nat) (φ : Fr), i + j = l.length → (Sm.sizes (l.take i) : Int) ≤ 1000 → Sm.txts (l.take i) → Fr.get φ 0 = .sl 7 (Sm.rows l) → Fr.get φ 1 = .int .i64 left → Fr.get φ 5 = .int .i64 (Sm.sizes (l.take i)) → Fr.get φ 6 = .int .i64 i →
      Q (M (eval tbl noExt) (.code l_r16_block_1 :: .blk 0 :: k) φ []) := by
  intro j
  induction j with
  | zero =>
    intro i φ hj hle ht h0 h1 h5 h6
    have hi : ¬ ((i : Int) < l.length) := by omega
    rw [List.take_of_length_le (by omega)] at hle ht h5
    rw [l_r16_block_1, M_loop, ← l_r16_block_1]
    simp [b_r16_block_1, h0, h1, h5, h6, hi, Sm.rows_len]
    exact hexit _ (by simp [h5]) hle ht
  | succ j ih =>
    intro i φ hj hle ht h0 h1 h5 h6
    have hi : (i : Int) < l.length := by omega
    obtain ⟨e, he, hmem, hd⟩ := at_some (l := l) (i := i) (by omega)
    have hre := Sm.rows_at he
    have hi2 := Sm.sizes_ge (l.take i)
    rw [List.length_take, Nat.min_eq_left (by omega)] at hi2
    have hw : IntKind.i64.wrap ((i : Int) + 1) = ((i + 1 : Nat) : Int) := by rw [wi (by omega) (by omega)]; rfl
    have hfe := hf e hmem
    have hnext := take_next he
    obtain ⟨op, s, w, x, b, c, g⟩ := e
    have hre' := hre
    simp only [Sm.cells] at hre
    have hw1 : IntKind.i64.wrap ((Sm.sizes (l.take i) : Int) + 1) = (Sm.sizes (l.take i) : Int) + 1 := wi (by omega) (by omega)
    have hw3 : IntKind.i64.wrap (left + 1) = left + 1 := wi (by omega) (by omega)
    rw [l_r16_block_1, M_loop, ← l_r16_block_1]
    by_cases hgt : left < (Sm.sizes (l.take i) : Int) + 1
    · simp [b_r16_block_1, h0, h1, h5, h6, hi, Sm.rows_len, hre, hw1, hgt, hw3]
      exact hret _ (by simp)
    by_cases hs : 300 < s.length
    · have hs' : (300 : Int) < s.length := by omega
      simp [b_r16_block_1, h0, h1, h5, h6, hi, Sm.rows_len, hre, hw1, hgt, hw3, hs']
      exact hret _ (by simp)
    have hs' : ¬ (300 : Int) < s.length := by omega
    simp [b_r16_block_1, h0, h1, h5, h6, hi, Sm.rows_len, hre, hw1, hgt, hw3, hs']
    refine block_inner l i op s w x b c g hi hre' left ((Sm.sizes (l.take i) : Int) + 1) hl0 h1l (by omega) Q _ (fun φ' q => ?_) (fun φ' q0 q1 q6 q5 qle qt => ?_) x.length 0 _ (by omega) (by simp [Ex.sizes]; omega) (by simp [Ex.txts]) (by simp [h0]) (by simp [h1]) (by simp [h6]) (by simp [Ex.sizes]) (by simp)
    · simp
      exact hret _ q
    · obtain ⟨r, hr, hr0, hr1, hr2⟩ := hfe b (by simp [Sm.blocks]) (left - ((Sm.sizes (l.take i) : Int) + 1 + Ex.sizes x)) (by omega) (by omega)
      have hw4 : IntKind.i64.wrap (left - ((Sm.sizes (l.take i) : Int) + 1 + Ex.sizes x)) = left - ((Sm.sizes (l.take i) : Int) + 1 + Ex.sizes x) := wi (by omega) (by omega)
      have hw5 : IntKind.i64.wrap ((Sm.sizes (l.take i) : Int) + 1 + Ex.sizes x + r) = (Sm.sizes (l.take i) : Int) + 1 + Ex.sizes x + r := wi (by omega) (by omega)
      by_cases hgt2 : left < (Sm.sizes (l.take i) : Int) + 1 + Ex.sizes x + r
      · simp [r_r16_block_0, q0, q1, q5, q6, hi, Sm.rows_len, hre, hw4, hr, hw5, hgt2, hw3]
        exact hret _ (by simp)
      obtain ⟨hr3, hr4⟩ := hr2 (by omega)
      obtain ⟨t, ht1, ht0, ht2, ht3⟩ := hfe c (by simp [Sm.blocks]) (left - ((Sm.sizes (l.take i) : Int) + 1 + Ex.sizes x + r)) (by omega) (by omega)
      have hw6 : IntKind.i64.wrap (left - ((Sm.sizes (l.take i) : Int) + 1 + Ex.sizes x + r)) = left - ((Sm.sizes (l.take i) : Int) + 1 + Ex.sizes x + r) := wi (by omega) (by omega)
      have hw7 : IntKind.i64.wrap ((Sm.sizes (l.take i) : Int) + 1 + Ex.sizes x + r + t) = (Sm.sizes (l.take i) : Int) + 1 + Ex.sizes x + r + t := wi (by omega) (by omega)
      by_cases hgt3 : left < (Sm.sizes (l.take i) : Int) + 1 + Ex.sizes x + r + t
      · simp [r_r16_block_0, q0, q1, q5, q6, hi, Sm.rows_len, hre, hw4, hr, hw5, hgt2, hw3, hw6, ht1, hw7, hgt3]
        exact hret _ (by simp)
      obtain ⟨ht4, ht5⟩ := ht3 (by omega)
      have hsz : (Sm.sizes (l.take i) : Int) + 1 + Ex.sizes x + r + t = (Sm.sizes (l.take (i + 1)) : Int) := by
        rw [hnext, _root_.Go.AM.Spec.sizes_append]; simp only [Sm.sizes, Sm.size]; omega
      simp [r_r16_block_0, q0, q1, q5, q6, hi, Sm.rows_len, hre, hw4, hr, hw5, hgt2, hw3, hw6, ht1, hw7, hgt3, r_r16_block_1, hw]
      refine ih (i + 1) _ (by omega) (by omega) (by rw [hnext, Sm.txts_append]; exact ⟨ht, ⟨by omega, qt, hr4, ht5⟩, trivial⟩) (by simp [q0]) (by simp [q1]) (by simp [hsz]) (by simp)
theorem block_step (l : List Sm) (hf : ∀ e ∈ l, ∀ b ∈ e.blocks, SzB b) : SzB l := by
  intro left hl0 hl1
  rw [eval_M rfl rfl t_r16_block rfl]
  simp [c_r16_block]
  refine sblock_loop l left hl0 hl1 hf (fun o => ∃ r : Int, o = some (.int .i64 r, []) ∧ -1000 ≤ r ∧ r ≤ 1001 ∧ (r ≤ left → r = Sm.sizes l ∧ Sm.txts l)) _ (fun φ' g => ?_) (fun φ' g hle ht => ?_) l.length 0 _ (by omega) (by simp [Sm.sizes]) (by simp [Sm.txts]) (by simp) (by simp) (by simp [Sm.sizes]) (by simp)
  · exact ⟨left + 1, by simp [g], by omega, by omega, fun h => by omega⟩
  · exact ⟨Sm.sizes l, by simp [r_r16_block_2, g], by omega, by omega, fun h => ⟨rfl, ht⟩⟩
theorem block_ok : ∀ (n : Nat) (l : List Sm), Sm.sizes l ≤ n → SzB l := by
  intro n
  induction n with
  | zero =>
    intro l hl
    have h0 : l = [] := by
      have := Sm.sizes_ge l
      exact List.length_eq_zero_iff.1 (by omega)
    subst h0
    exact block_step [] (by simp)
  | succ n ih =>
    intro l hl
    refine block_step l fun e he b hb => ih b ?_
    have h1 := Sm.sizes_mem he
    obtain ⟨op, w, m, ee, b1, b2, g⟩ := e
    simp only [Sm.size] at h1
    simp only [Sm.blocks, List.mem_cons, List.not_mem_nil, or_false] at hb
    rcases hb with rfl | rfl <;> omega
theorem Size_loop0 (p : Pg) (left : Int) (hl0 : 0 ≤ left) (h1l : left ≤ 1000) (hpl : (p.procs.length : Int) ≤ left) (hol : (p.oracles.length : Int) ≤ left) (Q : Option (V × Heap) → Prop) (k : List Item)
    (hret : ∀ φ', Fr.get φ' 4 = .int .i64 (left + 1) → Q (retK k φ' [some p.cells]))
    (hexit : ∀ φ' (n : Int), n = p.procs.length + p.oracles.length + Sm.sizes p.bodies.flatten → n ≤ left → (∀ x ∈ p.procs, x.1.length ≤ 300 ∧ Sm.txts x.2) → Fr.get φ' 1 = .int .i64 left → Fr.get φ' 2 = .ptr 0 0 → Fr.get φ' 5 = .int .i64 n → Q (M (eval tbl noExt) k φ' [some p.cells])) :
    ∀ (j i : Nat) (φ : Fr) (n : Int), i + j = p.procs.length → n = p.procs.length + p.oracles.length + Sm.sizes (p.bodies.take i).flatten → (n ≤ left ∨ i = 0) → (∀ x ∈ p.procs.take i, x.1.length ≤ 300 ∧ Sm.txts x.2) → Fr.get φ 1 = .int .i64 left → Fr.get φ 2 = .ptr 0 0 → Fr.get φ 5 = .int .i64 n → Fr.get φ 6 = .int .i64 i →
      Q (M (eval tbl noExt) (.code l_r16_Size_0 :: .blk 0 :: k) φ [some p.cells]) := by
  have hbl : p.bodies.length = p.procs.length := by simp [Pg.bodies]
  intro j
  induction j with
  | zero =>
    intro i φ n hj hn hle ht h1 h2 h5 h6
    have hi : ¬ ((i : Int) < p.procs.length) := by omega
    rw [List.take_of_length_le (by omega)] at hn
    rw [List.take_of_length_le (by omega)] at ht
    have hle' : n ≤ left := by
      rcases hle with h | h
      · exact h
      · have h0 : p.procs = [] := List.length_eq_zero_iff.1 (by omega)
        have h00 : p.bodies = [] := by rw [Pg.bodies, h0]; rfl
        rw [h0, h00] at hn
        simp only [List.length_nil, List.flatten_nil, Sm.sizes] at hn
        omega
    rw [l_r16_Size_0, M_loop, ← l_r16_Size_0]
    have hexit' := hexit
    simp only [Pg.cells] at hexit' ⊢
    simp [b_r16_Size_0, h1, h2, h5, h6, hi, Pg.pcells_len]
    exact hexit' _ n hn hle' ht (by simp [h1]) (by simp [h2]) (by simp [h5])
  | succ j ih =>
    intro i φ n hj hn hle ht h1 h2 h5 h6
    have hi : (i : Int) < p.procs.length := by omega
    obtain ⟨e, he, hmem, hd⟩ := at_some (l := p.procs) (i := i) (by omega)
    have hrow := p.prow he
    have hw : IntKind.i64.wrap ((i : Int) + 1) = ((i + 1 : Nat) : Int) := by rw [wi (by omega) (by omega)]; rfl
    have hb : p.bodies[i]? = some e.2 := by rw [Pg.bodies, List.getElem?_map, he]; rfl
    have hn0 : 0 ≤ n ∧ n ≤ 2000 := by
      rcases hle with h | h
      · omega
      · subst h
        simp only [List.take_zero, List.flatten_nil, Sm.sizes] at hn
        omega
    have hn1 : n - left ≤ 1000 := by
      rcases hle with h | h
      · omega
      · subst h
        simp only [List.take_zero, List.flatten_nil, Sm.sizes] at hn
        omega
    obtain ⟨r, hr, hr0, hr1, hr2⟩ := block_ok (Sm.sizes e.2) e.2 (Nat.le_refl _) (left - n) (by omega) (by omega)
    have hw1 : IntKind.i64.wrap (left - n) = left - n := wi (by omega) (by omega)
    have hw2 : IntKind.i64.wrap (n + r) = n + r := wi (by omega) (by omega)
    have hw3 : IntKind.i64.wrap (left + 1) = left + 1 := wi (by omega) (by omega)
    have hnext := take_next hb
    have hnext2 := take_next he
    rw [l_r16_Size_0, M_loop, ← l_r16_Size_0]
    have hret' := hret
    simp only [Pg.cells] at hret' ih ⊢
    by_cases hs : 300 < e.1.length
    · have hs' : (300 : Int) < e.1.length := by omega
      simp [b_r16_Size_0, h1, h2, h5, h6, hi, Pg.pcells_len, hrow, hw1, hr, hw2, hs', hw3]
      exact hret' _ (by simp)
    have hs' : ¬ (300 : Int) < e.1.length := by omega
    by_cases hgt : left < n + r
    · simp [b_r16_Size_0, h1, h2, h5, h6, hi, Pg.pcells_len, hrow, hw1, hr, hw2, hs', hw3, hgt]
      exact hret' _ (by simp)
    · obtain ⟨hr3, hr4⟩ := hr2 (by omega)
      simp [b_r16_Size_0, h1, h2, h5, h6, hi, Pg.pcells_len, hrow, hw1, hr, hw2, hs', hw, hgt]
      refine ih (i + 1) _ (n + r) (by omega) ?_ (Or.inl (by omega)) ?_ (by simp [h1]) (by simp [h2]) (by simp) (by simp)
      · rw [hnext, List.flatten_append, Go.AM.Spec.sizes_append]
        simp only [List.flatten_cons, List.flatten_nil, List.append_nil]
        omega
      · rw [hnext2]
        intro x hx
        rcases List.mem_append.1 hx with h | h
        · exact ht x h
        · rw [List.mem_singleton.1 h]
          exact ⟨by omega, hr4⟩
theorem Size_loop1 (p : Pg) (left N : Int) (hl0 : 0 ≤ left) (h1l : left ≤ 1000) (hol : (p.oracles.length : Int) ≤ left) (hN : 0 ≤ N) (Q : Option (V × Heap) → Prop) (k : List Item)
    (hret : ∀ φ', Fr.get φ' 4 = .int .i64 (left + 1) → Q (retK k φ' [some p.cells]))
    (hexit : ∀ φ' (n : Int), n ≤ 10000 → (n ≤ left → n = N + Ex.sizes p.exprs ∧ ∀ x ∈ p.oracles, x.1.length ≤ 300 ∧ x.2.txt) → Fr.get φ' 5 = .int .i64 n → Q (M (eval tbl noExt) k φ' [some p.cells])) :
    ∀ (j i : Nat) (φ : Fr) (n : Int), i + j = p.oracles.length → 0 ≤ n → n ≤ 10000 → (n ≤ left → n = N + Ex.sizes (p.exprs.take i) ∧ ∀ x ∈ p.oracles.take i, x.1.length ≤ 300 ∧ x.2.txt) → Fr.get φ 1 = .int .i64 left → Fr.get φ 2 = .ptr 0 0 → Fr.get φ 5 = .int .i64 n → Fr.get φ 7 = .int .i64 i →
      Q (M (eval tbl noExt) (.code l_r16_Size_1 :: .blk 2 :: k) φ [some p.cells]) := by
  have hbl : p.exprs.length = p.oracles.length := by simp [Pg.exprs]
  intro j
  induction j with
  | zero =>
    intro i φ n hj hn0 hn hle h1 h2 h5 h7
    have hi : ¬ ((i : Int) < p.oracles.length) := by omega
    rw [List.take_of_length_le (by omega), List.take_of_length_le (by omega)] at hle
    rw [l_r16_Size_1, M_loop, ← l_r16_Size_1]
    have hexit' := hexit
    simp only [Pg.cells] at hexit' ⊢
    simp [b_r16_Size_1, h1, h2, h5, h7, hi, Pg.ocells_len]
    exact hexit' _ n hn hle (by simp [h5])
  | succ j ih =>
    intro i φ n hj hn0 hn hle h1 h2 h5 h7
    have hi : (i : Int) < p.oracles.length := by omega
    have hexit' := hexit
    have hret' := hret
    simp only [Pg.cells] at hret' hexit' ih ⊢
    rw [l_r16_Size_1, M_loop, ← l_r16_Size_1]
    by_cases hgt : left < n
    · have hgt' : ¬ n ≤ left := by omega
      simp [b_r16_Size_1, h1, h2, h5, h7, hi, Pg.ocells_len, hgt']
      exact hexit' _ n hn (fun h => by omega) (by simp [h5])
    obtain ⟨hn1, hn2⟩ := hle (by omega)
    have hgt' : n ≤ left := by omega
    obtain ⟨e, he, hmem, hd⟩ := at_some (l := p.oracles) (i := i) (by omega)
    have hrow := p.orow he
    have hw : IntKind.i64.wrap ((i : Int) + 1) = ((i + 1 : Nat) : Int) := by rw [wi (by omega) (by omega)]; rfl
    have hb : p.exprs[i]? = some e.2 := by rw [Pg.exprs, List.getElem?_map, he]; rfl
    obtain ⟨r, hr, hr0, hr1, hr2⟩ := expr_ok e.2.size e.2 (Nat.le_refl _) (left - n) (by omega) (by omega)
    obtain ⟨c0, c1, c2, c3, hc⟩ := e.2.cells_shape
    rw [hc] at hr hrow
    have hw1 : IntKind.i64.wrap (left - n) = left - n := wi (by omega) (by omega)
    have hw2 : IntKind.i64.wrap (n + r) = n + r := wi (by omega) (by omega)
    have hw3 : IntKind.i64.wrap (left + 1) = left + 1 := wi (by omega) (by omega)
    have hnext := take_next hb
    have hnext2 := take_next he
    by_cases hs : 300 < e.1.length
    · have hs' : (300 : Int) < e.1.length := by omega
      simp [b_r16_Size_1, h1, h2, h5, h7, hi, Pg.ocells_len, hgt', hrow, hw1, hr, hw2, hs', hw3]
      exact hret' _ (by simp)
    have hs' : ¬ (300 : Int) < e.1.length := by omega
    simp [b_r16_Size_1, h1, h2, h5, h7, hi, Pg.ocells_len, hgt', hrow, hw1, hr, hw2, hs', hw]
    have hr5 : 0 ≤ r := by
      by_cases h : r ≤ left - n
      · have := (hr2 h).1; omega
      · omega
    refine ih (i + 1) _ (n + r) (by omega) (by omega) (by omega) (fun h => ?_) (by simp [h1]) (by simp [h2]) (by simp) (by simp)
    obtain ⟨hr3, hr4⟩ := hr2 (by omega)
    constructor
    · rw [hnext, Ex.sizes_append]
      simp only [Ex.sizes]
      omega
    · rw [hnext2]
      intro x hx
      rcases List.mem_append.1 hx with h | h
      · exact hn2 x h
      · rw [List.mem_singleton.1 h]
        exact ⟨by omega, hr4⟩
theorem Size_eq (p : Pg) (left : Int) (hl0 : 0 ≤ left) (h1l : left ≤ 1000) : ∃ r : Int, eval tbl noExt n_r16_Size [.agg p.cells, .int .i64 left] [] = some (.int .i64 r, []) ∧ (r ≤ left → (p.size : Int) ≤ left ∧ p.txt) := by
  have hw3 : IntKind.i64.wrap (left + 1) = left + 1 := wi (by omega) (by omega)
  have hmin : min left 1000 = left := by omega
  have hsz := p.size_eq
  rw [eval_M rfl rfl t_r16_Size rfl]
  by_cases hp : left < p.procs.length
  · refine ⟨left + 1, ?_, fun h => by omega⟩
    simp [c_r16_Size, Pg.cells, hmin, Pg.pcells_len, hp, hw3]
  by_cases ho : left < p.oracles.length
  · refine ⟨left + 1, ?_, fun h => by omega⟩
    simp [c_r16_Size, Pg.cells, hmin, Pg.pcells_len, Pg.ocells_len, hp, ho, hw3]
  have hw4 : IntKind.i64.wrap ((p.procs.length : Int) + p.oracles.length) = (p.procs.length : Int) + p.oracles.length := wi (by omega) (by omega)
  simp [c_r16_Size, Pg.cells, hmin, Pg.pcells_len, Pg.ocells_len, hp, ho, hw3, hw4]
  refine Size_loop0 p left hl0 h1l (by omega) (by omega) (fun o => ∃ r : Int, o = some (.int .i64 r, []) ∧ (r ≤ left → (p.size : Int) ≤ left ∧ p.txt)) _ (fun φ' g => ?_) (fun φ' n hn hle ht g1 g2 g5 => ?_) p.procs.length 0 _ ((p.procs.length : Int) + p.oracles.length) (by omega) (by simp [Sm.sizes]) (Or.inr rfl) (by simp) (by simp) (by simp) (by simp) (by simp)
  · exact ⟨left + 1, by simp [g], fun h => by omega⟩
  · have hn0 : 0 ≤ n := by omega
    obtain ⟨r, hr, hr0, hr1, hr2⟩ := block_ok (Sm.sizes p.main) p.main (Nat.le_refl _) (left - n) (by omega) (by omega)
    have hw5 : IntKind.i64.wrap (left - n) = left - n := wi (by omega) (by omega)
    have hw6 : IntKind.i64.wrap (n + r) = n + r := wi (by omega) (by omega)
    have hr5 : 0 ≤ r := by
      by_cases h : r ≤ left - n
      · have := (hr2 h).1; omega
      · omega
    have fin : ∀ (φ' : Fr) (m : Int), Fr.get φ' 5 = .int .i64 m → (m ≤ left → (p.size : Int) ≤ left ∧ p.txt) → ∃ r : Int, M (eval tbl noExt) [.code r_r16_Size_0, .fin [.t 4] 0] φ' [some p.cells] = some (.int .i64 r, []) ∧ (r ≤ left → (p.size : Int) ≤ left ∧ p.txt) := by
      intro φ' m h5 h
      exact ⟨m, by simp [r_r16_Size_0, h5], h⟩
    by_cases hgt : left < n + r
    · have hgt' : ¬ n + r ≤ left := by omega
      simp only [Pg.cells] at fin ⊢
      simp [r_r16_Size_1, g1, g2, g5, hw5, hr, hw6, hgt']
      refine Size_loop1 p left (left + 1) hl0 h1l (by omega) (by omega) (fun o => ∃ r : Int, o = some (.int .i64 r, []) ∧ (r ≤ left → (p.size : Int) ≤ left ∧ p.txt)) _ (fun φ' g => ?_) (fun φ' m hm0 hm hg5 => ?_) p.oracles.length 0 _ (n + r) (by omega) (by omega) (by omega) (fun h => by omega) (by simp [g1]) (by simp [g2]) (by simp) (by simp)
      · exact ⟨left + 1, by simp [g], fun h => by omega⟩
      · refine ⟨m, by simp [r_r16_Size_0, hg5], fun h => ?_⟩
        have := (hm h).1
        omega
    · have hgt' : n + r ≤ left := by omega
      obtain ⟨hr3, hr4⟩ := hr2 (by omega)
      obtain ⟨t, ht1, ht0, ht2, ht3⟩ := block_ok (Sm.sizes p.recover) p.recover (Nat.le_refl _) (left - (n + r)) (by omega) (by omega)
      have hw7 : IntKind.i64.wrap (left - (n + r)) = left - (n + r) := wi (by omega) (by omega)
      have hw8 : IntKind.i64.wrap (n + r + t) = n + r + t := wi (by omega) (by omega)
      have ht5 : 0 ≤ t := by
        by_cases h : t ≤ left - (n + r)
        · have := (ht3 h).1; omega
        · omega
      simp only [Pg.cells] at fin ⊢
      simp [r_r16_Size_1, g1, g2, g5, hw5, hr, hw6, hgt', hw7, ht1, hw8]
      refine Size_loop1 p left (if left < n + r + t then left + 1 else n + r + t) hl0 h1l (by omega) (by split <;> omega) (fun o => ∃ r : Int, o = some (.int .i64 r, []) ∧ (r ≤ left → (p.size : Int) ≤ left ∧ p.txt)) _ (fun φ' g => ?_) (fun φ' m hm0 hm hg5 => ?_) p.oracles.length 0 _ (n + r + t) (by omega) (by omega) (by omega) (fun h => by rw [if_neg (by omega)]; simp [Ex.sizes]) (by simp [g1]) (by simp [g2]) (by simp) (by simp)
      · exact ⟨left + 1, by simp [g], fun h => by omega⟩
      · refine ⟨m, by simp [r_r16_Size_0, hg5], fun h => ?_⟩
        obtain ⟨hm1, hm2⟩ := hm h
        by_cases hlt : left < n + r + t
        · rw [if_pos hlt] at hm1; omega
        · rw [if_neg hlt] at hm1
          obtain ⟨ht6, ht7⟩ := ht3 (by omega)
          exact ⟨by omega, ht, hr4, ht7, hm2⟩
theorem Small_eq (p : Pg) : ∃ b : Bool, eval tbl noExt n_l16_Small [.agg p.cells] [] = some (.bool b, []) ∧ (b = true → p.size ≤ 600 ∧ p.txt) := by
  obtain ⟨r, hr, h⟩ := Size_eq p 600 (by omega) (by omega)
  rw [eval_M rfl rfl t_l16_Small rfl]
  refine ⟨decide (r ≤ 600), ?_, fun hb => ?_⟩
  · simp only [Pg.cells] at hr ⊢
    simp [c_l16_Small, hr]
  · obtain ⟨h1, h2⟩ := h (of_decide_eq_true hb)
    exact ⟨by omega, h2⟩
end Go.AM.Spec
namespace Go.AM.Spec
set_option linter.unusedVariables false
set_option linter.unusedSimpArgs false
mutual
def Ex.fit : Ex → Prop
  | .mk op n s x => Fit op ∧ Fit n ∧ Len s.length ∧ Len x.length ∧ Ex.fits x
def Ex.fits : List Ex → Prop
  | [] => True
  | e :: l => e.fit ∧ Ex.fits l
end
mutual
def Sm.fit : Sm → Prop
  | .mk op s n e b c _ => Fit op ∧ Len s.length ∧ Fit n ∧ (Len e.length ∧ Ex.fits e) ∧ (Len b.length ∧ Sm.fits b) ∧ (Len c.length ∧ Sm.fits c)
def Sm.fits : List Sm → Prop
  | [] => True
  | e :: l => e.fit ∧ Sm.fits l
end
structure Pg.fit (p : Pg) : Prop where
  pl : Len p.procs.length
  ps : ∀ x ∈ p.procs, Len x.1.length ∧ Len x.2.length ∧ Sm.fits x.2
  ml : Len p.main.length
  ms : Sm.fits p.main
  rl : Len p.recover.length
  rs : Sm.fits p.recover
  ol : Len p.oracles.length
  os : ∀ x ∈ p.oracles, Len x.1.length ∧ x.2.fit
section
variable {P : Program}
theorem ex_list {rows : List (List V)} (h : ∀ r ∈ rows, ∃ e : Ex, r = e.cells ∧ e.fit) : ∃ l : List Ex, rows = Ex.rows l ∧ Ex.fits l ∧ l.length = rows.length := by
  induction rows with
  | nil => exact ⟨[], rfl, trivial, rfl⟩
  | cons r rows ih =>
    obtain ⟨e, rfl, he⟩ := h r (by simp)
    obtain ⟨l, rfl, hl, hn⟩ := ih (fun r hr => h r (by simp [hr]))
    exact ⟨e :: l, rfl, ⟨he, hl⟩, by simp [hn]⟩
theorem sm_list {rows : List (List V)} (h : ∀ r ∈ rows, ∃ e : Sm, r = e.cells ∧ e.fit) : ∃ l : List Sm, rows = Sm.rows l ∧ Sm.fits l ∧ l.length = rows.length := by
  induction rows with
  | nil => exact ⟨[], rfl, trivial, rfl⟩
  | cons r rows ih =>
    obtain ⟨e, rfl, he⟩ := h r (by simp)
    obtain ⟨l, rfl, hl, hn⟩ := ih (fun r hr => h r (by simp [hr]))
    exact ⟨e :: l, rfl, ⟨he, hl⟩, by simp [hn]⟩
structure TreeTys (P : Program) (tG tPs tSs tOs tP tO tS tEs tE tI tN tB tT : TypeId) : Prop where
  g : ∃ fs, P.underlying tG = some (.struct fs) ∧ fs.toList.map (·.type) = [tPs, tSs, tSs, tOs]
  ps : P.underlying tPs = some (.slice tP)
  ss : P.underlying tSs = some (.slice tS)
  os : P.underlying tOs = some (.slice tO)
  es : P.underlying tEs = some (.slice tE)
  p : ∃ fs, P.underlying tP = some (.struct fs) ∧ fs.toList.map (·.type) = [tT, tSs]
  o : ∃ fs, P.underlying tO = some (.struct fs) ∧ fs.toList.map (·.type) = [tT, tE]
  s : ∃ fs, P.underlying tS = some (.struct fs) ∧ fs.toList.map (·.type) = [tI, tT, tN, tEs, tSs, tSs, tB]
  e : ∃ fs, P.underlying tE = some (.struct fs) ∧ fs.toList.map (·.type) = [tI, tN, tT, tEs]
  i : P.underlying tI = some (.int .i64)
  n : P.underlying tN = some (.int .i64)
  b : P.underlying tB = some .bool
  t : P.underlying tT = some .string
  cp : P.cellsOf tP = 2
  cs : P.cellsOf tS = 7
  co : P.cellsOf tO = 5
  ce : P.cellsOf tE = 4
variable {tG tPs tSs tOs tP tO tS tEs tE tI tN tB tT : TypeId} (T : TreeTys P tG tPs tSs tOs tP tO tS tEs tE tI tN tB tT)
include T
theorem ex_of {t : TypeId} {vs : List V} (h : Ty P t vs) : (t = tE → ∃ e : Ex, vs = e.cells ∧ e.fit) ∧ (t = tEs → ∃ l : List Ex, vs = [.sl 4 (Ex.rows l)] ∧ Len l.length ∧ Ex.fits l) := by
  induction h with
  | bool h b =>
    obtain ⟨fs, hu, _⟩ := T.e
    exact ⟨fun ht => (by subst ht; rw [hu] at h; cases h), fun ht => (by subst ht; rw [T.es] at h; cases h)⟩
  | int h n hw =>
    obtain ⟨fs, hu, _⟩ := T.e
    exact ⟨fun ht => (by subst ht; rw [hu] at h; cases h), fun ht => (by subst ht; rw [T.es] at h; cases h)⟩
  | str h s hs =>
    obtain ⟨fs, hu, _⟩ := T.e
    exact ⟨fun ht => (by subst ht; rw [hu] at h; cases h), fun ht => (by subst ht; rw [T.es] at h; cases h)⟩
  | sl h rows hl hr ih =>
    obtain ⟨fs, hu, _⟩ := T.e
    refine ⟨fun ht => (by subst ht; rw [hu] at h; cases h), fun ht => ?_⟩
    subst ht
    rw [T.es] at h
    cases h
    obtain ⟨l, rfl, hf, hn⟩ := ex_list (fun r hr => (ih r hr).1 rfl)
    exact ⟨l, by rw [T.ce], by rw [hn]; exact hl, hf⟩
  | @struct t' gs h parts hl hp ih =>
    obtain ⟨fs, hu, hfs⟩ := T.e
    refine ⟨fun ht => ?_, fun ht => (by subst ht; rw [T.es] at h; cases h)⟩
    subst ht
    obtain rfl : fs = gs := by
      have := hu.symm.trans h
      simpa using this
    have hL := TyL_of (by rw [hl, Array.length_toList]) (fun j f p h1 h2 => hp j f p (by rw [← Array.getElem?_toList]; exact h1) h2)
    rw [hfs] at hL
    obtain ⟨p0, p1, p2, p3, rfl, h0, h1, h2, h3⟩ := TyL_4 hL
    obtain ⟨op, rfl, w0⟩ := Ty_int_of h0 T.i
    obtain ⟨n, rfl, w1⟩ := Ty_int_of h1 T.n
    obtain ⟨s, rfl, w2⟩ := Ty_str_of h2 T.t
    have hf3 : ∃ f : Field, fs[3]? = some f ∧ f.type = tEs := by
      have : (fs.toList.map (·.type))[3]? = some tEs := by rw [hfs]; rfl
      rw [List.getElem?_map, Option.map_eq_some_iff] at this
      obtain ⟨f, hf, hf'⟩ := this
      exact ⟨f, by rw [← Array.getElem?_toList]; exact hf, hf'⟩
    obtain ⟨f, hf, hft⟩ := hf3
    obtain ⟨l, rfl, hll, hlf⟩ := (ih 3 f p3 hf rfl).2 hft
    exact ⟨.mk op n s l, rfl, w0, w1, w2, hll, hlf⟩
  | arr h parts hl hp ih =>
    obtain ⟨fs, hu, _⟩ := T.e
    exact ⟨fun ht => (by subst ht; rw [hu] at h; cases h), fun ht => (by subst ht; rw [T.es] at h; cases h)⟩
theorem sm_of {t : TypeId} {vs : List V} (h : Ty P t vs) : (t = tS → ∃ e : Sm, vs = e.cells ∧ e.fit) ∧ (t = tSs → ∃ l : List Sm, vs = [.sl 7 (Sm.rows l)] ∧ Len l.length ∧ Sm.fits l) := by
  induction h with
  | bool h b =>
    obtain ⟨fs, hu, _⟩ := T.s
    exact ⟨fun ht => (by subst ht; rw [hu] at h; cases h), fun ht => (by subst ht; rw [T.ss] at h; cases h)⟩
  | int h n hw =>
    obtain ⟨fs, hu, _⟩ := T.s
    exact ⟨fun ht => (by subst ht; rw [hu] at h; cases h), fun ht => (by subst ht; rw [T.ss] at h; cases h)⟩
  | str h s hs =>
    obtain ⟨fs, hu, _⟩ := T.s
    exact ⟨fun ht => (by subst ht; rw [hu] at h; cases h), fun ht => (by subst ht; rw [T.ss] at h; cases h)⟩
  | sl h rows hl hr ih =>
    obtain ⟨fs, hu, _⟩ := T.s
    refine ⟨fun ht => (by subst ht; rw [hu] at h; cases h), fun ht => ?_⟩
    subst ht
    rw [T.ss] at h
    cases h
    obtain ⟨l, rfl, hf, hn⟩ := sm_list (fun r hr => (ih r hr).1 rfl)
    exact ⟨l, by rw [T.cs], by rw [hn]; exact hl, hf⟩
  | @struct t' gs h parts hl hp ih =>
    obtain ⟨fs, hu, hfs⟩ := T.s
    refine ⟨fun ht => ?_, fun ht => (by subst ht; rw [T.ss] at h; cases h)⟩
    subst ht
    obtain rfl : fs = gs := by
      have := hu.symm.trans h
      simpa using this
    have hL := TyL_of (by rw [hl, Array.length_toList]) (fun j f p h1 h2 => hp j f p (by rw [← Array.getElem?_toList]; exact h1) h2)
    rw [hfs] at hL
    obtain ⟨p0, p1, p2, p3, p4, p5, p6, rfl, h0, h1, h2, h3, h4, h5, h6⟩ := TyL_7 hL
    obtain ⟨op, rfl, w0⟩ := Ty_int_of h0 T.i
    obtain ⟨s, rfl, w1⟩ := Ty_str_of h1 T.t
    obtain ⟨n, rfl, w2⟩ := Ty_int_of h2 T.n
    obtain ⟨e, rfl, w3⟩ := (ex_of T h3).2 rfl
    obtain ⟨k, rfl⟩ := Ty_bool_of h6 T.b
    have hf : ∀ i, fs.toList.map (·.type) = [tI, tT, tN, tEs, tSs, tSs, tB] → i = 4 ∨ i = 5 → ∃ f : Field, fs[i]? = some f ∧ f.type = tSs := by
      intro i hfs hi
      have : (fs.toList.map (·.type))[i]? = some tSs := by rw [hfs]; rcases hi with rfl | rfl <;> rfl
      rw [List.getElem?_map, Option.map_eq_some_iff] at this
      obtain ⟨f, hf, hf'⟩ := this
      exact ⟨f, by rw [← Array.getElem?_toList]; exact hf, hf'⟩
    obtain ⟨f4, hf4, ht4⟩ := hf 4 hfs (.inl rfl)
    obtain ⟨f5, hf5, ht5⟩ := hf 5 hfs (.inr rfl)
    obtain ⟨b, rfl, w4⟩ := (ih 4 f4 p4 hf4 rfl).2 ht4
    obtain ⟨c, rfl, w5⟩ := (ih 5 f5 p5 hf5 rfl).2 ht5
    exact ⟨.mk op s n e b c k, rfl, w0, w1, w2, w3, w4, w5⟩
  | arr h parts hl hp ih =>
    obtain ⟨fs, hu, _⟩ := T.s
    exact ⟨fun ht => (by subst ht; rw [hu] at h; cases h), fun ht => (by subst ht; rw [T.ss] at h; cases h)⟩
theorem pr_list {prows : List (List V)} (hpr : ∀ r ∈ prows, Ty P tP r) : ∃ ps : List (List UInt8 × List Sm), prows = ps.map (fun x => [.str x.1, .sl 7 (Sm.rows x.2)]) ∧ ∀ x ∈ ps, Len x.1.length ∧ Len x.2.length ∧ Sm.fits x.2 := by
    induction prows with
    | nil => exact ⟨[], rfl, by simp⟩
    | cons x l ih =>
      obtain ⟨ps, rfl, hps⟩ := ih (fun r hr => hpr r (by simp [hr]))
      obtain ⟨gs, gu, ggs⟩ := T.p
      have gi := Ty_inv (hpr x (by simp))
      rw [gu] at gi
      obtain ⟨parts, rfl, hL⟩ := gi
      rw [ggs] at hL
      obtain ⟨q0, q1, rfl, k0, k1⟩ := TyL_2 hL
      obtain ⟨s, rfl, w0⟩ := Ty_str_of k0 T.t
      obtain ⟨b, rfl, w1, w2⟩ := (sm_of T k1).2 rfl
      refine ⟨(s, b) :: ps, rfl, ?_⟩
      intro x hx
      rcases List.mem_cons.1 hx with rfl | hx
      · exact ⟨w0, w1, w2⟩
      · exact hps x hx
theorem or_list {orows : List (List V)} (hor : ∀ r ∈ orows, Ty P tO r) : ∃ os : List (List UInt8 × Ex), orows = os.map (fun x => .str x.1 :: x.2.cells) ∧ ∀ x ∈ os, Len x.1.length ∧ x.2.fit := by
    induction orows with
    | nil => exact ⟨[], rfl, by simp⟩
    | cons x l ih =>
      obtain ⟨os, rfl, hos⟩ := ih (fun r hr => hor r (by simp [hr]))
      obtain ⟨gs, gu, ggs⟩ := T.o
      have gi := Ty_inv (hor x (by simp))
      rw [gu] at gi
      obtain ⟨parts, rfl, hL⟩ := gi
      rw [ggs] at hL
      obtain ⟨q0, q1, rfl, k0, k1⟩ := TyL_2 hL
      obtain ⟨s, rfl, w0⟩ := Ty_str_of k0 T.t
      obtain ⟨e, rfl, w1⟩ := (ex_of T k1).1 rfl
      refine ⟨(s, e) :: os, by simp, ?_⟩
      intro x hx
      rcases List.mem_cons.1 hx with rfl | hx
      · exact ⟨w0, w1⟩
      · exact hos x hx
theorem pg_of {vs : List V} (h : Ty P tG vs) : ∃ p : Pg, vs = p.cells ∧ p.fit := by
  obtain ⟨fs, hu, hfs⟩ := T.g
  have hi := Ty_inv h
  rw [hu] at hi
  obtain ⟨parts, rfl, hL⟩ := hi
  rw [hfs] at hL
  obtain ⟨p0, p1, p2, p3, rfl, h0, h1, h2, h3⟩ := TyL_4 hL
  obtain ⟨m, rfl, m1, m2⟩ := (sm_of T h1).2 rfl
  obtain ⟨r, rfl, r1, r2⟩ := (sm_of T h2).2 rfl
  obtain ⟨prows, rfl, pl, hpr⟩ := Ty_sl_of h0 T.ps
  obtain ⟨orows, rfl, ol, hor⟩ := Ty_sl_of h3 T.os
  have hps := pr_list T hpr
  have hos := or_list T hor
  obtain ⟨ps, rfl, hps⟩ := hps
  obtain ⟨os, rfl, hos⟩ := hos
  refine ⟨⟨ps, m, r, os⟩, ?_, ⟨by simpa using pl, hps, m1, m2, r1, r2, by simpa using ol, hos⟩⟩
  rw [T.cp, T.co]
  simp [Pg.cells, Pg.pcells, Pg.ocells]
end
end Go.AM.Spec
