/-
  Sites: may, words, names, in the program and in the document.
-/
import Derived.Test.YtjbedlhjjhnciaaDoorSiteA
namespace Go.AM.Spec
set_option linter.unusedVariables false
set_option linter.unusedSimpArgs false
set_option maxHeartbeats 1000000
set_option maxRecDepth 10000

variable {s : Si}

def zeroS (k : Nat) : List V := List.replicate k (V.int .i64 0)
theorem zeroS_eq (k : Nat) : zeroS k = (List.replicate k (0 : Int)).map iv := by simp [zeroS]

theorem setMany_mid (a b vs cs : List V) (h : vs.length = b.length) : setMany (a ++ (b ++ cs)) a.length vs = a ++ (vs ++ cs) := by
  induction vs generalizing a b with
  | nil =>
    have : b = [] := List.eq_nil_of_length_eq_zero (by simpa using h.symm)
    subst this; rfl
  | cons v vs ih =>
    match b, h with
    | x :: b, h =>
      simp only [List.length_cons, Nat.add_right_cancel_iff] at h
      simp only [setMany]
      have e1 : (a ++ (x :: b ++ cs)).set a.length v = (a ++ [v]) ++ (b ++ cs) := by
        rw [List.set_append_right _ _ (Nat.le_refl _)]
        simp
      have := ih (a ++ [v]) b h
      rw [e1]
      simp only [List.length_append, List.length_singleton] at this
      rw [this]; simp

/-- The way, its end cleared. -/
theorem Si.cut (ok : s.ok) (d : Nat) (hd : d ≤ 8) : (((setMany s.cells (2 + d) (zeroS (8 - d))).drop 2).take 8) = (s.way.take d ++ List.replicate (8 - d) 0).map iv := by
  have h8 : s.way.length = 8 := ok
  have e : s.cells = (iv s.kind :: iv s.part :: (s.way.take d).map iv) ++ ((s.way.drop d).map iv ++ [iv s.deep]) := by
    simp only [Si.cells, List.cons_append, ← List.append_assoc, ← List.map_append, List.take_append_drop]
  have hl : (iv s.kind :: iv s.part :: (s.way.take d).map iv).length = 2 + d := by simp; omega
  have h1 := setMany_mid (iv s.kind :: iv s.part :: (s.way.take d).map iv) ((s.way.drop d).map iv) (zeroS (8 - d)) [iv s.deep] (by rw [zeroS_eq]; simp [h8])
  rw [hl, ← e] at h1
  rw [h1]
  simp only [List.cons_append, List.drop_succ_cons, List.drop_zero, ← List.append_assoc]
  rw [List.take_append_of_le_length (by rw [zeroS_eq]; simp; omega), zeroS_eq, ← List.map_append, List.take_of_length_le (by simp; omega)]

theorem replicate_iff (l : List Int) : l = List.replicate l.length 0 ↔ (l.all fun w => decide (w = 0)) = true := by
  rw [List.eq_replicate_iff]
  simp

theorem cut_iff (ok : s.ok) (d : Nat) (hd : d ≤ 8) : decide (s.way.take d ++ List.replicate (8 - d) 0 = s.way) = (s.way.drop d).all (fun w => decide (w = 0)) := by
  have h8 : s.way.length = 8 := ok
  rw [Bool.eq_iff_iff, decide_eq_true_eq, ← replicate_iff]
  have hl : (s.way.drop d).length = 8 - d := by simp [h8]
  rw [hl]
  constructor
  · intro h
    have h1 : s.way.take d ++ List.replicate (8 - d) 0 = s.way.take d ++ s.way.drop d := by rw [h, List.take_append_drop]
    exact (List.append_cancel_left h1).symm
  · intro h
    rw [← h, List.take_append_drop]

theorem may_loop (K : Heap) (call : CallF) (Q : Option (V × Heap) → Prop) (k : List Item) (way : List Int) (h8 : way.length = 8) (v1 : V)
    (hyes : ∀ φ', Fr.get φ' 1 = v1.strip → (way.all fun w => decide (0 ≤ w)) = true → Q (M call k φ' K)) (hno : ∀ φ', (way.all fun w => decide (0 ≤ w)) = false → Fr.get φ' 2 = .bool false → Q (retK k φ' K)) :
    ∀ (j i : Nat) (φ : Fr), i + j = 8 → (way.all fun w => decide (0 ≤ w)) = ((way.drop i).all fun w => decide (0 ≤ w)) → Fr.get φ 1 = v1.strip → Fr.get φ 15 = .agg (way.map iv) → Fr.get φ 16 = iv i → Q (M call (.code l_site_may_0 :: .blk 0 :: k) φ K) := by
  intro j
  induction j with
  | zero =>
    intro i φ hi hX h1 h15 h16
    obtain rfl : i = 8 := by omega
    rw [List.drop_eq_nil_of_le (by omega)] at hX
    rw [l_site_may_0, M_loop]
    simp [b_site_may_0, h1, h15, h16]
    exact hyes _ (by simp [h1]) (by rw [hX]; rfl)
  | succ j ih =>
    intro i φ hi hX h1 h15 h16
    have hlt : i < way.length := by omega
    rw [List.drop_eq_getElem_cons hlt] at hX
    have e1 : (i : Int) < 8 := by omega
    have e2 : IntKind.i64.wrap ((i : Int) + 1) = ((i + 1 : Nat) : Int) := by rw [w64] <;> omega
    have e3 : way[i]? = some way[i] := List.getElem?_eq_getElem hlt
    rw [l_site_may_0, M_loop, ← l_site_may_0]
    by_cases a1 : way[i] < 0
    · have a1' : ¬ 0 ≤ way[i] := by omega
      simp [b_site_may_0, h1, h15, h16, e1, e2, e3, a1]
      exact hno _ (by rw [hX, List.all_cons, decide_eq_false a1', Bool.false_and]) (by simp)
    · have a1' : 0 ≤ way[i] := by omega
      simp [b_site_may_0, h1, h15, h16, e1, e2, e3, a1]
      exact ih (i + 1) _ (by omega) (by rw [hX, List.all_cons, decide_eq_true a1', Bool.true_and]) (by simp [h1]) (by simp [h15]) (by simp)

theorem eq8 (xs ys : List Int) (hx : xs.length = 8) (hy : ys.length = 8) : eqCells [.int .i64, .int .i64, .int .i64, .int .i64, .int .i64, .int .i64, .int .i64, .int .i64] (xs.map iv) (ys.map iv) = some (decide (xs = ys)) := eqCells_ints 8 .i64 xs ys hx hy

theorem setMany_len : ∀ (vs cs : List V) (off : Nat), (setMany cs off vs).length = cs.length
  | [], cs, off => rfl
  | v :: vs, cs, off => by simp [setMany, setMany_len vs]
theorem setMany_over (a cs : List V) : ∀ (vs : List V) , vs.length = cs.length → setMany (a ++ cs) a.length vs = a ++ vs := by
  intro vs h
  have := setMany_mid a cs vs [] h
  simpa using this
theorem setMany_self (cs vs : List V) (h : vs.length = cs.length) : setMany cs 0 vs = vs := by
  have := setMany_over [] cs vs h
  simpa using this
theorem h11 (s : Si) (ok : s.ok) : ∀ a b c d e f g h i j k : V, setMany [a, b, c, d, e, f, g, h, i, j, k] 0 s.cells = s.cells := fun a b c d e f g h i j k => setMany_self _ _ (by rw [Si.len ok]; rfl)

theorem Si.ways_strip (ok : s.ok) : List.map V.strip ((s.cells.drop 2).take 8) = s.way.map iv := by rw [Si.ways ok, map_iv_strip]
theorem Si.cut_strip (ok : s.ok) (d : Nat) (hd : d ≤ 8) : List.take 8 (List.drop 2 (List.map V.strip (setMany s.cells (2 + d) (zeroS (8 - d))))) = (s.way.take d ++ List.replicate (8 - d) 0).map iv := by
  rw [← List.map_drop, ← List.map_take, Si.cut ok d hd, map_iv_strip]

theorem may_eq (s : Si) (ok : s.ok) (H : Heap) : eval tbl noExt n_site_may [.agg s.cells] H = some (.bool s.may, H) := by
  have h8 : s.way.length = 8 := ok
  have hc := Si.c10 ok
  have hl := Si.len ok
  have hst := Si.strip (s := s)
  have hone := Si.one (s := s)
  have htk := Si.take ok
  have hw := Si.ways_strip ok
  have hself := h11 s ok
  have hcg : ∀ h : 10 < s.cells.length, s.cells[10] = iv s.deep := fun h => by
    have := hc
    rw [List.getElem?_eq_getElem h] at this
    exact Option.some.inj this
  rw [eval_M rfl rfl t_site_may rfl]
  unfold Si.may
  by_cases a1 : s.deep < 1
  · have a1' : ¬ 1 ≤ s.deep := by omega
    simp [c_site_may, hc, a1, a1']
  · have a1' : 1 ≤ s.deep := by omega
    by_cases a2 : 8 < s.deep
    · have a2' : ¬ s.deep ≤ 8 := by omega
      simp [c_site_may, hc, a1, a2, a2']
    · have a2' : s.deep ≤ 8 := by omega
      simp only [a1', a2', decide_true, Bool.true_and]
      obtain ⟨A, hA⟩ : ∃ A, A = ((s.way.all fun w => decide (0 ≤ w)) && ((s.way.drop s.deep.toNat).all fun w => decide (w = 0))) := ⟨_, rfl⟩
      rw [← hA]
      simp [c_site_may, hc, a1, a2, hw, hl, hcg]
      refine may_loop _ _ (fun r => r = some (V.bool A, H)) _ s.way h8 (.ptr H.length 0) ?_ ?_ 8 0 _ (by omega) rfl ?_ ?_ ?_
      · intro φ' h1 hX
        rw [hA]
        obtain ⟨d, hd⟩ : ∃ d : Nat, s.deep = d := ⟨s.deep.toNat, by omega⟩
        have hd8 : d ≤ 8 := by omega
        have hdi : (d : Int) ≤ 8 := by omega
        have hdt : s.deep.toNat = d := by omega
        rw [hX, hdt, Bool.true_and]
        have hci := cut_iff (s := s) ok d hd8
        rw [← hci]
        have he := eq8 (s.way.take d ++ List.replicate (8 - d) 0) s.way (by simp [h8]; omega) h8
        have hun := fun n => Si.under (s := s) n
        by_cases a3 : d = 8
        · subst a3
          have ht : s.way.take 8 = s.way := List.take_of_length_le (by omega)
          have he2 := eq8 s.way s.way h8 h8
          simp [r_site_may_0, h1, hc, hcg, hd, hl, hst, hone, htk, hw, hun, hself, ht, he2]
        · have a3' : ¬ (8 = d) := by omega
          have e1 : 2 + d + (8 - d) ≤ 11 := by omega
          have hcs := Si.cut_strip (s := s) ok d hd8
          unfold zeroS at hcs
          obtain ⟨cw, hcw⟩ : ∃ cw, cw = s.way.take d ++ List.replicate (8 - d) 0 := ⟨_, rfl⟩
          rw [← hcw] at he hcs ⊢
          have hlen : (setMany s.cells (2 + d) (List.replicate (8 - d) (V.int .i64 0))).length = 11 := by rw [setMany_len, hl]
          simp [r_site_may_0, h1, hc, hcg, hd, hdi, hl, hst, hone, htk, hw, hun, hself, a3', e1, hcs, he, hlen]
      · intro φ' hX h2
        rw [hA, hX, Bool.false_and]
        simp [h2]
      · simp
      · simp
      · simp

end Go.AM.Spec
