/-
  The laws PathTells and PathBack, as what the evaluator answers.
-/
import Derived.Test.YtacgeomcmpjghaaDoorPathC
namespace Go.AM.Spec
set_option linter.unusedVariables false
set_option linter.unusedSimpArgs false
set_option maxHeartbeats 1000000
set_option maxRecDepth 10000

theorem refName7_any (s : List UInt8) (H : Heap) : eval tbl noExt n_flotsamref07_Name [.str s] H = some (.bool (isFile s), H) := by
  by_cases hl : s.length ≤ 1000000
  · exact refName7_eq s hl H
  · have h8 : ¬ s.length ≤ 8 := by omega
    have h8' : (8 : Int) < s.length := by omega
    have hn : ¬ ((s.length : Int) < 1) := by omega
    have h0 : s ≠ [] := by rintro rfl; simp at hl
    rw [eval_M rfl rfl t_flotsamref07_Name rfl]
    simp [c_flotsamref07_Name, h0, hn, h8, h8', isFile]

theorem tells_loop (l : List (List UInt8)) (hl : l.length ≤ 20) (p q : List UInt8) (H : Heap) (call : CallF) (Q : Option (V × Heap) → Prop) (k : List Item)
    (hret : ∀ φ', Fr.get φ' 6 = .bool true → Q (retK k φ' H)) (hexit : ∀ φ', (∀ w ∈ l, w.length ≤ 100) → Fr.get φ' 0 = .str p → Fr.get φ' 1 = .str q → Fr.get φ' 2 = .sl 1 (l.map tx) → Q (M call k φ' H)) :
    ∀ (j i : Nat) (φ : Fr), i + j = l.length → (∀ w ∈ l.take i, w.length ≤ 100) → Fr.get φ 0 = .str p → Fr.get φ 1 = .str q → Fr.get φ 2 = .sl 1 (l.map tx) → Fr.get φ 7 = .int .i64 i →
      Q (M call (.code l_flotsamlaw08_PathTells_0 :: .blk 0 :: k) φ H) := by
  intro j
  induction j with
  | zero =>
    intro i φ hj hs h0 h1 h2 h7
    have hi : ¬ ((i : Int) < l.length) := by omega
    rw [List.take_of_length_le (by omega)] at hs
    rw [l_flotsamlaw08_PathTells_0, M_loop, ← l_flotsamlaw08_PathTells_0]
    simp [b_flotsamlaw08_PathTells_0, h0, h1, h2, h7, hi]
    exact hexit _ hs (by simp [h0]) (by simp [h1]) (by simp [h2])
  | succ j ih =>
    intro i φ hj hs h0 h1 h2 h7
    have hi : (i : Int) < l.length := by omega
    have hil : i < l.length := by omega
    obtain ⟨a, ea⟩ : ∃ a, l[i]? = some a := ⟨l[i], List.getElem?_eq_getElem hil⟩
    have ra : (l.map tx)[i]? = some [.str a] := by rw [List.getElem?_map, ea]; rfl
    have hw1 : IntKind.i64.wrap ((i : Int) + 1) = ((i + 1 : Nat) : Int) := by rw [w64 (by omega) (by omega)]; rfl
    rw [l_flotsamlaw08_PathTells_0, M_loop, ← l_flotsamlaw08_PathTells_0]
    by_cases ha : 100 < a.length
    · have ha' : (100 : Int) < a.length := by omega
      simp [b_flotsamlaw08_PathTells_0, h0, h1, h2, h7, hi, ra, ha']
      exact hret _ (by simp)
    · have ha' : ¬ (100 : Int) < a.length := by omega
      simp [b_flotsamlaw08_PathTells_0, h0, h1, h2, h7, hi, ra, ha', hw1]
      refine ih (i + 1) _ (by omega) ?_ ?_ ?_ ?_ ?_
      · intro w hw
        rw [List.take_add_one, ea, List.mem_append] at hw
        rcases hw with hw | hw
        · exact hs w hw
        · simp at hw; subst hw; omega
      · simp [h0]
      · simp [h1]
      · simp [h2]
      · simp

theorem PathTells_eq (p q : List UInt8) (l : List (List UInt8)) : eval tbl noExt n_flotsamlaw08_PathTells [.str p, .str q, .sl 1 (l.map tx)] [] = some (.bool true, []) := by
  have hk := knows8
  rw [eval_M rfl rfl t_flotsamlaw08_PathTells rfl]
  by_cases hp : p.length ≤ 200
  case neg =>
    have hp' : (200 : Int) < p.length := by omega
    simp [c_flotsamlaw08_PathTells, hp', hk, lt_flotsamlaw08_knows]
  have hp' : ¬ (200 : Int) < p.length := by omega
  by_cases hq : q.length ≤ 200
  case neg =>
    have hq' : (200 : Int) < q.length := by omega
    simp [c_flotsamlaw08_PathTells, hp', hq', hk, lt_flotsamlaw08_knows]
  have hq' : ¬ (200 : Int) < q.length := by omega
  by_cases hl : l.length ≤ 20
  case neg =>
    have hl' : (20 : Int) < l.length := by omega
    simp [c_flotsamlaw08_PathTells, hp', hq', hl', hk, lt_flotsamlaw08_knows]
  have hl' : ¬ (20 : Int) < l.length := by omega
  simp [c_flotsamlaw08_PathTells, hp', hq', hl']
  refine tells_loop l hl p q [] _ (fun o => o = some (.bool true, [])) _ (fun φ' g => ?_) (fun φ' h g0 g1 g2 => ?_) l.length 0 _ (by omega) (by simp) (by simp) (by simp) (by simp) (by simp)
  · simp [g]
  · have hsh : Shorts l := ⟨by omega, fun w hw => by have := h w hw; omega⟩
    have s1 := Split_eq p (by omega)
    have s2 := refSplit_eq p (by omega)
    have s3 := Parent_eq p (by omega)
    have s4 := refParent_eq p (by omega)
    have s5 := Join_eq l hsh
    have s6 := refJoin_eq l hsh
    have s7 := Under_eq p q (by omega) (by omega)
    have s8 := refUnder_eq p q (by omega) (by omega)
    have hpl := (splitP_shorts p (by omega)).1
    have s9 := flotsamlaw08_Texts_eq (splitP p).1 (splitP p).1 (by omega)
    obtain ⟨a, b, e, hpar⟩ : ∃ a b e, parentV p = .tup [.str a, .str b, .int .i64 e] := by
      unfold parentV
      split
      · exact ⟨_, _, _, rfl⟩
      · split
        · exact ⟨_, _, _, rfl⟩
        · exact ⟨_, _, _, rfl⟩
    rw [hpar] at s3 s4
    unfold splitV at s1 s2
    simp only [beq_self_eq_true] at s9
    have nm := num8
    simp [r_flotsamlaw08_PathTells_0, g0, g1, g2, s1, s2, s3, s4, s5, s6, s7, s8, s9, nm, hk, lt_path_Split, lt_flotsamref08_Split, lt_path_Parent, lt_flotsamref08_Parent, lt_path_Join, lt_flotsamref08_Join, lt_path_Under, lt_flotsamref08_Under, lt_flotsamlaw08_Texts, lt_flotsamlaw08_num, lt_flotsamlaw08_knows]

end Go.AM.Spec
