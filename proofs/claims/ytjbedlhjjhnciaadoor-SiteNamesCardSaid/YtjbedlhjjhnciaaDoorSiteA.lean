/-
  Sites: whether a way may be, and the words of kinds, in the program and in the document.
-/
import Derived.Test.YtjbedlhjjhnciaaDoorNumG
namespace Go.AM.Spec
set_option linter.unusedVariables false
set_option linter.unusedSimpArgs false
set_option maxHeartbeats 1000000
set_option maxRecDepth 10000

abbrev iv (n : Int) : V := .int .i64 n

/-- A site. -/
structure Si where
  kind : Int
  part : Int
  way : List Int
  deep : Int
  deriving DecidableEq

def Si.cells (s : Si) : List V := iv s.kind :: iv s.part :: (s.way.map iv ++ [iv s.deep])
def Si.ok (s : Si) : Prop := s.way.length = 8

theorem map_iv_strip (l : List Int) : (l.map iv).map V.strip = l.map iv := by
  rw [List.map_map]; rfl

theorem eqCells_ints : ∀ (n : Nat) (k : IntKind) (xs ys : List Int), xs.length = n → ys.length = n → eqCells (List.replicate n (.int k)) (xs.map (V.int k)) (ys.map (V.int k)) = some (decide (xs = ys))
  | 0, _, [], [], _, _ => rfl
  | n + 1, k, x :: xs, y :: ys, hx, hy => by
    simp only [List.length_cons, Nat.add_right_cancel_iff] at hx hy
    simp [List.replicate, eqCells, eqCells_ints n k xs ys hx hy]
  | 0, _, _ :: _, _, h, _ => by simp at h
  | 0, _, [], _ :: _, _, h => by simp at h
  | n + 1, _, [], _, h, _ => by simp at h
  | n + 1, _, _ :: _, [], _, h => by simp at h

variable {s : Si}

theorem Si.len (h : s.ok) : s.cells.length = 11 := by simp [Si.cells, show s.way.length = 8 from h]
theorem Si.c0 : s.cells[0]? = some (iv s.kind) := rfl
theorem Si.c1 : s.cells[1]? = some (iv s.part) := rfl
theorem Si.c10 (h : s.ok) : s.cells[10]? = some (iv s.deep) := by
  have h8 : s.way.length = 8 := h
  simp only [Si.cells, List.getElem?_cons_succ]
  rw [List.getElem?_append_right (by simp [h8])]
  simp [h8]
theorem Si.cw {i : Nat} {w : Int} (h : s.way[i]? = some w) : s.cells[2 + i]? = some (iv w) := by
  have hi : i < s.way.length := by
    rcases Nat.lt_or_ge i s.way.length with h1 | h1
    · exact h1
    · rw [List.getElem?_eq_none h1] at h; cases h
  rw [Nat.add_comm]
  simp only [Si.cells, List.getElem?_cons_succ]
  rw [List.getElem?_append_left (by simpa using hi), List.getElem?_map, h]; rfl
theorem Si.strip : s.cells.map V.strip = s.cells := by simp [Si.cells, Function.comp_def, V.strip]
theorem Si.one : s.cells.all V.one = true := by simp [Si.cells, V.one]
theorem Si.under (n : Nat) : V.underAll n s.cells = true := by
  have : ∀ l : List Int, V.underAll n (l.map iv ++ [iv s.deep]) = true := by
    intro l
    induction l with
    | nil => simp [V.underAll, V.under]
    | cons x l ih => simp only [List.map_cons, List.cons_append, V.underAll, V.under, ih, Bool.and_self]
  simp only [Si.cells, V.underAll, V.under, this, Bool.and_self]
theorem Si.take (h : s.ok) : s.cells.take 11 = s.cells := List.take_of_length_le (by rw [Si.len h]; omega)
theorem Si.ways (h : s.ok) : (s.cells.drop 2).take 8 = s.way.map iv := by
  have h8 : s.way.length = 8 := h
  simp only [Si.cells, List.drop_succ_cons, List.drop_zero]
  rw [List.take_append_of_le_length (by simp [h8]), List.take_of_length_le (by simp [h8])]

/-- May a site's way be? -/
def Si.may (s : Si) : Bool := decide (1 ≤ s.deep) && (decide (s.deep ≤ 8) && (s.way.all (fun w => decide (0 ≤ w)) && (s.way.drop s.deep.toNat).all (fun w => decide (w = 0))))

/-- The rest of the document's look. -/
def mayFrom (deep : Int) : Nat → List Int → Bool
  | _, [] => true
  | i, w :: ws => decide (0 ≤ w) && ((!decide (deep ≤ i) || decide (w = 0)) && mayFrom deep (i + 1) ws)

theorem mayFrom_eq (deep : Int) (h1 : 1 ≤ deep) : ∀ (i : Nat) (l : List Int), mayFrom deep i l = (l.all (fun w => decide (0 ≤ w)) && (l.drop (deep.toNat - i)).all (fun w => decide (w = 0)))
  | i, [] => by simp [mayFrom]
  | i, w :: ws => by
    rw [mayFrom, mayFrom_eq deep h1 (i + 1) ws]
    by_cases h : deep ≤ i
    · have e1 : deep.toNat - i = 0 := by omega
      have e2 : deep.toNat - (i + 1) = 0 := by omega
      rw [e1, e2]
      simp only [h, decide_true, Bool.not_true, Bool.false_or, List.all_cons, List.drop_zero]
      cases decide (0 ≤ w) <;> cases decide (w = 0) <;> simp
    · obtain ⟨m, hm⟩ : ∃ m, deep.toNat - i = m + 1 := ⟨deep.toNat - i - 1, by omega⟩
      have e2 : deep.toNat - (i + 1) = m := by omega
      rw [hm, e2]
      simp only [h, decide_false, Bool.not_false, Bool.true_or, List.all_cons, List.drop_succ_cons, Bool.true_and, Bool.and_assoc]

theorem refMay_loop (K : Heap) (n : Nat) (hK : K[n]? = some (some s.cells)) (ok : s.ok) (call : CallF) (Q : Option (V × Heap) → Prop) (k : List Item) (X : Bool)
    (hyes : ∀ φ', X = true → Q (M call k φ' K)) (hno : ∀ φ', X = false → Fr.get φ' 2 = .bool false → Q (retK k φ' K)) :
    ∀ (j i : Nat) (φ : Fr), i + j = 8 → mayFrom s.deep i (s.way.drop i) = X → Fr.get φ 1 = .ptr n 0 → Fr.get φ 3 = iv i → Q (M call (.code l_flotsamref25_may_0 :: .blk 0 :: k) φ K) := by
  have h8 : s.way.length = 8 := ok
  have hc := Si.c10 ok
  intro j
  induction j with
  | zero =>
    intro i φ hi hX h1 h3
    obtain rfl : i = 8 := by omega
    rw [List.drop_eq_nil_of_le (by omega)] at hX
    rw [l_flotsamref25_may_0, M_loop]
    simp [b_flotsamref25_may_0, h1, h3]
    exact hyes _ (by rw [← hX]; rfl)
  | succ j ih =>
    intro i φ hi hX h1 h3
    have hlt : i < s.way.length := by omega
    rw [List.drop_eq_getElem_cons hlt, mayFrom] at hX
    have hw := Si.cw (s := s) (i := i) (w := s.way[i]) (List.getElem?_eq_getElem hlt)
    have e1 : (i : Int) < 8 := by omega
    have e2 : IntKind.i64.wrap ((i : Int) + 1) = ((i + 1 : Nat) : Int) := by rw [w64] <;> omega
    rw [l_flotsamref25_may_0, M_loop, ← l_flotsamref25_may_0]
    by_cases a1 : s.way[i] < 0
    · have a1' : ¬ 0 ≤ s.way[i] := by omega
      simp [b_flotsamref25_may_0, h1, h3, hK, hw, hc, e1, e2, a1]
      exact hno _ (by rw [← hX]; simp [a1']) (by simp)
    · have a1' : 0 ≤ s.way[i] := by omega
      by_cases a2 : s.deep ≤ i
      · by_cases a3 : s.way[i] = 0
        · simp [b_flotsamref25_may_0, h1, h3, hK, hw, hc, e1, e2, a1, a2, a3]
          exact ih (i + 1) _ (by omega) (by rw [← hX]; simp [a1', a2, a3]) (by simp [h1]) (by simp)
        · simp [b_flotsamref25_may_0, h1, h3, hK, hw, hc, e1, e2, a1, a2, a3]
          exact hno _ (by rw [← hX]; simp [a1', a2, a3]) (by simp)
      · simp [b_flotsamref25_may_0, h1, h3, hK, hw, hc, e1, e2, a1, a2]
        exact ih (i + 1) _ (by omega) (by rw [← hX]; simp [a1', a2]) (by simp [h1]) (by simp)

theorem refMay_eq (s : Si) (ok : s.ok) (H : Heap) : eval tbl noExt n_flotsamref25_may [.agg s.cells] H = some (.bool s.may, H) := by
  have hc := Si.c10 ok
  rw [eval_M rfl rfl t_flotsamref25_may rfl]
  unfold Si.may
  by_cases a1 : s.deep < 1
  · have a1' : ¬ 1 ≤ s.deep := by omega
    simp [c_flotsamref25_may, hc, a1, a1']
  · have a1' : 1 ≤ s.deep := by omega
    by_cases a2 : 8 < s.deep
    · have a2' : ¬ s.deep ≤ 8 := by omega
      simp [c_flotsamref25_may, hc, a1, a2, a2']
    · have a2' : s.deep ≤ 8 := by omega
      have hm := mayFrom_eq s.deep a1' 0 s.way
      simp only [a1', a2', decide_true, Bool.true_and]
      rw [Nat.sub_zero] at hm
      rw [← hm]
      simp [c_flotsamref25_may, hc, a1, a2]
      refine refMay_loop (s := s) _ H.length (by simp) ok _ (fun r => r = some (V.bool (mayFrom s.deep 0 s.way), H)) _ (mayFrom s.deep 0 s.way) ?_ ?_ 8 0 _ (by omega) rfl (by simp) (by simp)
      · intro φ' hX
        simp [r_flotsamref25_may_0, hX]
      · intro φ' hX h2
        simp [hX, h2]

end Go.AM.Spec
