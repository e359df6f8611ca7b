/-
  The law PathBack, as what the evaluator answers: names joined and split come back.
-/
import Derived.Test.YtacgeomcmpjghaaDoorPathD
namespace Go.AM.Spec
set_option linter.unusedVariables false
set_option linter.unusedSimpArgs false
set_option maxHeartbeats 1000000
set_option maxRecDepth 10000

/-! What is split and joined. -/

theorem splitOn_none : ∀ (w : List UInt8), 47 ∉ w → splitOn 47 w = [w]
  | [], _ => rfl
  | b :: l, h => by
    have hb : b ≠ 47 := fun e => h (by simp [e])
    exact splitOn_other hb l (splitOn_none l (fun e => h (by simp [e])))
theorem splitOn_app : ∀ (w r : List UInt8), 47 ∉ w → splitOn 47 (w ++ 47 :: r) = w :: splitOn 47 r
  | [], r, _ => splitOn_same 47 r
  | b :: l, r, h => by
    have hb : b ≠ 47 := fun e => h (by simp [e])
    exact splitOn_other hb _ (splitOn_app l r (fun e => h (by simp [e])))
theorem splitOn_join : ∀ l : List (List UInt8), l ≠ [] → (∀ w ∈ l, 47 ∉ w) → splitOn 47 (Go.Lib.join l [47]) = l
  | [], h, _ => absurd rfl h
  | [x], _, h => by rw [Go.Lib.join_one]; exact splitOn_none x (h x (by simp))
  | x :: y :: r, _, h => by
    rw [join_cons2, splitOn_app _ _ (h x (by simp)), splitOn_join (y :: r) (by simp) (fun w hw => h w (by simp at hw ⊢; right; exact hw))]
theorem join_splitOn : ∀ s : List UInt8, Go.Lib.join (splitOn 47 s) [47] = s
  | [] => by simp [splitOn, Go.Lib.join_one]
  | b :: l => by
    have ih := join_splitOn l
    by_cases h : b = 47
    · subst h
      rw [splitOn_same]
      cases hs : splitOn 47 l with
      | nil => exact absurd hs (splitOn_len 47 l).2
      | cons w ws =>
        rw [hs] at ih
        rw [join_cons2, ih]; rfl
    · cases hs : splitOn 47 l with
      | nil => exact absurd hs (splitOn_len 47 l).2
      | cons w ws =>
        rw [hs] at ih
        rw [splitOn_other h l hs]
        cases ws with
        | nil => rw [Go.Lib.join_one] at ih ⊢; rw [ih]
        | cons v vs => rw [join_cons2] at ih ⊢; rw [List.cons_append, ih]

theorem file_plain {w : List UInt8} (h : isFile w = true) : 47 ∉ w ∧ w ≠ [] := by
  unfold isFile at h
  simp only [Bool.and_eq_true, decide_eq_true_eq, List.all_eq_true] at h
  obtain ⟨h0, _, _, _, h4⟩ := h
  refine ⟨fun hm => ?_, h0⟩
  have := h4 47 hm
  have h47 : inSigns 47 = false := by decide
  rw [h47] at this; cases this

theorem split_joined (l : List (List UInt8)) (h4 : l.length ≤ 4) (hf : allFile l = true) : splitP (joinP l) = (l, 0) := by
  cases l with
  | nil => rfl
  | cons x r =>
    have hx := fun w (hw : w ∈ x :: r) => file_plain (List.all_eq_true.1 hf w hw)
    have hs := splitOn_join (x :: r) (by simp) (fun w hw => (hx w hw).1)
    have hne : ¬ joinP (x :: r) = [47] := by
      unfold joinP
      rw [Go.Lib.join_cons]
      have := (hx x (by simp)).2
      simp [this]
    unfold splitP
    rw [if_neg hne]
    unfold joinP
    simp only
    rw [hs, if_pos ⟨trivial, h4, hf⟩]

theorem splitP_ok {p : List UInt8} (h : (splitP p).2 = 0) : joinP (splitP p).1 = p ∧ (splitP p).1.length ≤ 4 ∧ allFile (splitP p).1 = true := by
  unfold splitP at h ⊢
  split
  · rename_i h0; subst h0; exact ⟨rfl, by simp, rfl⟩
  · rename_i h0
    rw [if_neg h0] at h
    cases p with
    | nil => simp at h
    | cons c r =>
      simp only at h ⊢
      split at h
      · rename_i hc
        rw [if_pos hc]
        obtain ⟨rfl, h4, hf⟩ := hc
        exact ⟨by unfold joinP; rw [join_splitOn], h4, hf⟩
      · cases h

theorem begins_rfl : ∀ l : List (List UInt8), begins l l = true
  | [] => rfl
  | a :: l => by rw [begins_cons, begins_rfl l]; simp
theorem begins_take2 : ∀ (l : List (List UInt8)) (n : Nat), begins l (l.take n) = true
  | l, 0 => by simp [begins_nil]
  | [], _ + 1 => rfl
  | a :: l, n + 1 => by rw [List.take_succ_cons, begins_cons, begins_take2 l n]; simp

theorem back_loop (l : List (List UInt8)) (hl : l.length ≤ 20) (p : List UInt8) (H : Heap) (Q : Option (V × Heap) → Prop) (k : List Item)
    (hret : ∀ φ', Fr.get φ' 4 = .bool true → Q (retK k φ' H)) (hexit : ∀ φ', (∀ w ∈ l, w.length ≤ 100) → Fr.get φ' 0 = .str p → Fr.get φ' 1 = .sl 1 (l.map tx) → Fr.get φ' 5 = .bool (decide (l.length ≤ 4) && allFile l) → Q (M (eval tbl noExt) k φ' H)) :
    ∀ (j i : Nat) (φ : Fr), i + j = l.length → (∀ w ∈ l.take i, w.length ≤ 100) → Fr.get φ 0 = .str p → Fr.get φ 1 = .sl 1 (l.map tx) → Fr.get φ 5 = .bool (decide (l.length ≤ 4) && allFile (l.take i)) → Fr.get φ 6 = .int .i64 i →
      Q (M (eval tbl noExt) (.code l_flotsamlaw08_PathBack_0 :: .blk 0 :: k) φ H) := by
  intro j
  induction j with
  | zero =>
    intro i φ hj hs h0 h1 h5 h6
    have hi : ¬ ((i : Int) < l.length) := by omega
    rw [List.take_of_length_le (by omega)] at hs h5
    rw [l_flotsamlaw08_PathBack_0, M_loop, ← l_flotsamlaw08_PathBack_0]
    simp [b_flotsamlaw08_PathBack_0, h0, h1, h6, hi]
    exact hexit _ hs (by simp [h0]) (by simp [h1]) (by simp [h5])
  | succ j ih =>
    intro i φ hj hs h0 h1 h5 h6
    have hi : (i : Int) < l.length := by omega
    have hil : i < l.length := by omega
    obtain ⟨a, ea⟩ : ∃ a, l[i]? = some a := ⟨l[i], List.getElem?_eq_getElem hil⟩
    have ra : (l.map tx)[i]? = some [.str a] := by rw [List.getElem?_map, ea]; rfl
    have hw1 : IntKind.i64.wrap ((i : Int) + 1) = ((i + 1 : Nat) : Int) := by rw [w64 (by omega) (by omega)]; rfl
    have hN := refName7_any a
    have hnext : allFile (l.take (i + 1)) = (allFile (l.take i) && isFile a) := by
      rw [List.take_add_one, ea]; simp [allFile]
    have hshort : 100 ≥ a.length → ∀ w ∈ l.take (i + 1), w.length ≤ 100 := by
      intro ha w hw
      rw [List.take_add_one, ea, List.mem_append] at hw
      rcases hw with hw | hw
      · exact hs w hw
      · simp at hw; subst hw; omega
    rw [l_flotsamlaw08_PathBack_0, M_loop, ← l_flotsamlaw08_PathBack_0]
    cases hb : (decide (l.length ≤ 4) && allFile (l.take i)) with
    | false =>
      rw [hb] at h5
      have h5n : (decide (l.length ≤ 4) && allFile (l.take (i + 1))) = false := by rw [hnext, ← Bool.and_assoc, hb, Bool.false_and]
      by_cases ha : 100 < a.length
      · have ha' : (100 : Int) < a.length := by omega
        simp [b_flotsamlaw08_PathBack_0, h0, h1, h5, h6, hi, ra, ha']
        exact hret _ (by simp)
      · have ha' : ¬ (100 : Int) < a.length := by omega
        simp [b_flotsamlaw08_PathBack_0, h0, h1, h5, h6, hi, ra, ha', hw1]
        refine ih (i + 1) _ (by omega) (hshort (by omega)) ?_ ?_ ?_ ?_
        · simp [h0]
        · simp [h1]
        · rw [h5n]; simp
        · simp
    | true =>
      rw [hb] at h5
      have h5n : (decide (l.length ≤ 4) && allFile (l.take (i + 1))) = isFile a := by rw [hnext, ← Bool.and_assoc, hb, Bool.true_and]
      by_cases ha : 100 < a.length
      · have ha' : (100 : Int) < a.length := by omega
        simp [b_flotsamlaw08_PathBack_0, h0, h1, h5, h6, hi, ra, ha', hN, lt_flotsamref07_Name]
        exact hret _ (by simp)
      · have ha' : ¬ (100 : Int) < a.length := by omega
        simp [b_flotsamlaw08_PathBack_0, h0, h1, h5, h6, hi, ra, ha', hN, lt_flotsamref07_Name, hw1]
        refine ih (i + 1) _ (by omega) (hshort (by omega)) ?_ ?_ ?_ ?_
        · simp [h0]
        · simp [h1]
        · rw [h5n]; simp
        · simp

theorem joinP_len (l : List (List UInt8)) (hl : l.length ≤ 20) (h : ∀ w ∈ l, w.length ≤ 1000) : (joinP l).length ≤ 30000 := by
  have := join_len l h
  unfold joinP
  simp only [List.length_cons]
  omega

def backA : AC := match r_flotsamlaw08_PathBack_0 with | .seq a _ => a | c => c
def backB : AC := match r_flotsamlaw08_PathBack_0 with | .seq _ (.seq b _) => b | c => c
def backT : AC := match r_flotsamlaw08_PathBack_0 with | .seq _ (.seq _ r) => r | c => c
theorem back_parts : r_flotsamlaw08_PathBack_0 = .seq backA (.seq backB backT) := rfl

set_option maxHeartbeats 4000000 in
theorem PathBack_eq (p : List UInt8) (l : List (List UInt8)) : eval tbl noExt n_flotsamlaw08_PathBack [.str p, .sl 1 (l.map tx)] [] = some (.bool true, []) := by
  have hk := knows8
  rw [eval_M rfl rfl t_flotsamlaw08_PathBack rfl]
  by_cases hp : p.length ≤ 200
  case neg =>
    have hp' : (200 : Int) < p.length := by omega
    simp [c_flotsamlaw08_PathBack, hp', hk, lt_flotsamlaw08_knows]
  have hp' : ¬ (200 : Int) < p.length := by omega
  by_cases hl : l.length ≤ 20
  case neg =>
    have hl' : (20 : Int) < l.length := by omega
    simp [c_flotsamlaw08_PathBack, hp', hl', hk, lt_flotsamlaw08_knows]
  have hl' : ¬ (20 : Int) < l.length := by omega
  have h4i : decide ((l.length : Int) ≤ 4) = decide (l.length ≤ 4) := by
    rw [decide_eq_decide]; omega
  simp [c_flotsamlaw08_PathBack, hp', hl', hk, lt_flotsamlaw08_knows]
  refine back_loop l hl p [] (fun o => o = some (.bool true, [])) _ (fun φ' g => ?_) (fun φ' h g0 g1 g5 => ?_) l.length 0 _ (by omega) (by simp) (by simp) (by simp) (by simp [allFile]; omega) (by simp)
  · simp [g]
  · have hsh : Shorts l := ⟨by omega, fun w hw => by have := h w hw; omega⟩
    have hjl := joinP_len l (by omega) hsh.2
    have s1 := Join_eq l hsh
    have s2 := Split_eq (joinP l) (by omega)
    have nm := num8
    have s3 := Split_eq p (by omega)
    have s4 := Parent_eq p (by omega)
    have s5 := Under_eq p p (by omega) (by omega)
    have hpl := (splitP_shorts p (by omega))
    have s6 := Join_eq (splitP p).1 hpl
    have hself : underP p p = decide ((splitP p).2 = 0) := by
      unfold underP
      rw [begins_rfl]
      by_cases h0 : (splitP p).2 = 0 <;> simp [h0]
    rw [hself] at s5
    have key : ∀ φ'' : Fr, Fr.get φ'' 0 = .str p → M (eval tbl noExt) [.code backT, .fin [.t 4] 0] φ'' [] = some (.bool true, []) := by
      intro φ'' g0
      simp only [backT, r_flotsamlaw08_PathBack_0]
      unfold splitV at s3
      rcases splitP_err p with he | ⟨hn, he⟩
      case inr =>
        rw [hn, he] at s3
        rw [he] at s5
        have h90 : decide ((9 : Int) = 0) = false := by decide
        rw [h90] at s5
        simp [g0, s3, s5, nm, lt_path_Split, lt_flotsamlaw08_num, lt_path_Under]
      obtain ⟨hj, h4, hf⟩ := splitP_ok he
      rw [hj] at s6
      rw [he] at s3 s5
      simp only [decide_true] at s5
      unfold parentV at s4
      rw [if_neg (by simp [he])] at s4
      by_cases hn : (splitP p).1 = []
      · have hpe : p = [47] := by rw [← hj, hn]; rfl
        rw [if_pos hn] at s4
        rw [hn] at s3
        rw [hpe] at s3 s4 g0
        simp [g0, s3, s4, nm, lt_path_Split, lt_flotsamlaw08_num, lt_path_Parent]
      · rw [if_neg hn] at s4
        have hpos := List.length_pos_iff.2 hn
        obtain ⟨n, hn1⟩ : ∃ n, (splitP p).1.length = n + 1 := ⟨(splitP p).1.length - 1, by omega⟩
        obtain ⟨x, ex⟩ : ∃ x, (splitP p).1[n]? = some x := ⟨(splitP p).1[n]'(by omega), List.getElem?_eq_getElem (by omega)⟩
        have rx : ((splitP p).1.map tx)[n]? = some [.str x] := by rw [List.getElem?_map, ex]; rfl
        simp only [hn1, Nat.add_sub_cancel, ex, Option.getD_some] at s4
        generalize hup : joinP ((splitP p).1.take n) = up at s4
        have hsu : splitP up = ((splitP p).1.take n, 0) := by
          rw [← hup]
          refine split_joined _ (by rw [List.length_take]; omega) ?_
          exact List.all_eq_true.2 fun w hw => List.all_eq_true.1 hf w (List.mem_of_mem_take hw)
        have hul : up.length ≤ 30000 := by
          rw [← hup]
          exact joinP_len _ (by rw [List.length_take]; omega) (hpl.take n).2
        have hu1 : underP p up = true := by
          unfold underP
          rw [hsu, begins_take2, he]
          simp; omega
        have hu2 : underP up p = false := by
          unfold underP
          rw [hsu]
          simp; intro _ h; omega
        have s7 := Under_eq p up (by omega) (by omega)
        have s8 := Under_eq up p (by omega) (by omega)
        rw [hu1] at s7
        rw [hu2] at s8
        have hw : IntKind.i64.wrap (n : Int) = n := w64 (by omega) (by omega)
        have c2 : (n : Int) < (n : Int) + 1 := by omega
        have c3 : ¬ ((n : Int) + 1 = 0) := by omega
        simp [g0, s3, s4, s5, s6, s7, s8, nm, lt_path_Split, lt_flotsamlaw08_num, lt_path_Parent, lt_path_Join, lt_path_Under, hn, hn1, hw, c2, c3, rx, ex, tx]
        exact (List.getElem?_eq_some_iff.1 ex).choose_spec.symm
    rw [back_parts]
    cases hfine : (decide (l.length ≤ 4) && allFile l) with
    | false =>
      rw [hfine] at g5
      unfold splitV at s2
      simp [backA, backB, r_flotsamlaw08_PathBack_0, g0, g1, g5, s1, s2, lt_path_Join, lt_path_Split]
      exact key _ (by simp [g0])
    | true =>
      rw [hfine] at g5
      simp only [Bool.and_eq_true, decide_eq_true_eq] at hfine
      have s9 := flotsamlaw08_Texts_eq l l (by omega)
      simp only [beq_self_eq_true] at s9
      unfold splitV at s2
      rw [split_joined l hfine.1 hfine.2] at s2
      simp [backA, backB, r_flotsamlaw08_PathBack_0, g0, g1, g5, s1, s2, s9, nm, lt_path_Join, lt_path_Split, lt_flotsamlaw08_num, lt_flotsamlaw08_Texts]
      exact key _ (by simp [g0])

end Go.AM.Spec
