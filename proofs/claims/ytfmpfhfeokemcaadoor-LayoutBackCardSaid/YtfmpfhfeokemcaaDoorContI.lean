/-
  slices.ContainsFunc and slices.IndexFunc at the program's own types; printed by a program (mkcont.py).
-/
import Derived.Test.YtfmpfhfeokemcaaDoorSpc
namespace Go.AM.Spec
set_option linter.unusedVariables false
set_option linter.unusedSimpArgs false
set_option maxHeartbeats 1000000

theorem IndexFunc_int_int_loop {α : Type} {f : Nat} {first cap : List V} (hp : f < yBase) (e : α → Int) (l : List α) (hl : l.length ≤ 1000000) (p : α → Bool) (H : Heap) (call : CallF)
    (hf : ∀ a ∈ l, call f (first ++ [V.int .i64 (e a)] ++ cap) H = some (.bool (p a), H)) (Q : Option (V × Heap) → Prop) (k : List Item)
    (hret : ∀ φ' (i : Nat), l.any p = true → Fr.get φ' 4 = .int .i64 i → Q (retK k φ' H)) (hexit : ∀ φ', l.any p = false → Q (M call k φ' H)) :
    ∀ (j i : Nat) (φ : Fr), i + j = l.length → l.any p = (l.drop i).any p → Fr.get φ 0 = .sl 1 (l.map fun a => [V.int .i64 (e a)]) → Fr.get φ 1 = .fn (.func f) first cap → Fr.get φ 7 = .int .i64 l.length → Fr.get φ 8 = .int .i64 i →
      Q (M call (.code l_slices_IndexFunc_int_int_0 :: .blk 0 :: k) φ H) := by
  intro j
  induction j with
  | zero =>
    intro i φ hj hs h0 h1 h7 h8
    have hi : ¬ ((i : Int) < l.length) := by omega
    rw [List.drop_of_length_le (by omega)] at hs
    rw [l_slices_IndexFunc_int_int_0, M_loop, ← l_slices_IndexFunc_int_int_0]
    simp [b_slices_IndexFunc_int_int_0, h0, h1, h7, h8, hi]
    exact hexit _ (by rw [hs]; rfl)
  | succ j ih =>
    intro i φ hj hs h0 h1 h7 h8
    have hi : (i : Int) < l.length := by omega
    have hil : i < l.length := by omega
    obtain ⟨a, ha, hmem, hd⟩ : ∃ a, l[i]? = some a ∧ a ∈ l ∧ l.drop i = a :: l.drop (i + 1) := ⟨l[i], List.getElem?_eq_getElem hil, List.getElem_mem hil, List.drop_eq_getElem_cons hil⟩
    have hr : (l.map fun a => [V.int .i64 (e a)])[i]? = some [V.int .i64 (e a)] := by rw [List.getElem?_map, ha]; rfl
    have hgl : (l.map fun a => [V.int .i64 (e a)]).length = l.length := List.length_map ..
    have hw1 : IntKind.i64.wrap ((i : Int) + 1) = ((i + 1 : Nat) : Int) := by rw [w64 (by omega) (by omega)]; rfl
    have hcall := hf a hmem
    rw [hd, List.any_cons] at hs
    rw [l_slices_IndexFunc_int_int_0, M_loop, ← l_slices_IndexFunc_int_int_0]
    cases hb : p a with
    | true =>
      rw [hb, Bool.true_or] at hs
      rw [hb] at hcall
      simp at hcall
      simp [b_slices_IndexFunc_int_int_0, h0, h1, h7, h8, hi, hgl, hr, hp, hcall]
      exact hret _ i hs (by simp)
    | false =>
      rw [hb, Bool.false_or] at hs
      rw [hb] at hcall
      simp at hcall
      simp [b_slices_IndexFunc_int_int_0, h0, h1, h7, h8, hi, hgl, hr, hp, hcall, hw1]
      exact ih (i + 1) _ (by omega) hs (by simp [h0]) (by simp [h1]) (by simp [h7]) (by simp)

theorem ContainsFunc_int_int {α : Type} {f : Nat} {first cap : List V} (hp : f < yBase) (e : α → Int) (l : List α) (hl : l.length ≤ 1000000) (p : α → Bool) (H : Heap)
    (hf : ∀ a ∈ l, eval tbl (fun _ => none) f (first ++ [V.int .i64 (e a)] ++ cap) H = some (.bool (p a), H)) :
    eval tbl (fun _ => none) n_slices_ContainsFunc_int_int [.sl 1 (l.map fun a => [V.int .i64 (e a)]), .fn (.func f) first cap] H = some (.bool (l.any p), H) := by
  obtain ⟨n, hn, hn2⟩ : ∃ n : Int, eval tbl (fun _ => none) n_slices_IndexFunc_int_int [.sl 1 (l.map fun a => [V.int .i64 (e a)]), .fn (.func f) first cap] H = some (.int .i64 n, H) ∧ decide (0 ≤ n) = l.any p := by
    rw [eval_M rfl rfl t_slices_IndexFunc_int_int rfl]
    simp [c_slices_IndexFunc_int_int]
    refine IndexFunc_int_int_loop hp e l hl p H _ hf (fun o => ∃ n : Int, o = some (.int .i64 n, H) ∧ decide (0 ≤ n) = l.any p) _ (fun φ' i h g => ?_) (fun φ' h => ?_) l.length 0 _ (by omega) (by simp) (by simp) (by simp) (by simp) (by simp)
    · exact ⟨i, by simp [g], by rw [h]; simp⟩
    · exact ⟨-1, by simp [r_slices_IndexFunc_int_int_0], by rw [h]; simp⟩
  rw [eval_M rfl rfl t_slices_ContainsFunc_int_int rfl]
  simp [c_slices_ContainsFunc_int_int, hn, hn2, lt_slices_IndexFunc_int_int]

theorem ContainsFunc_int_int_own {α : Type} {f : Nat} {first cap : List V} (hp : f < yBase) (e : α → Int) (l : List α) (hl : l.length ≤ 1000000) (p : α → Bool) (H : Heap)
    (hf : ∀ a ∈ l, eval tbl (fun _ => none) f (first ++ [V.int .i64 (e a)] ++ cap) H = some (.bool (p a), H)) :
    eval tbl (fun _ => none) n_slices_ContainsFunc_int_int [.own 1 (l.map fun a => [V.int .i64 (e a)]), .fn (.func f) first cap] H = some (.bool (l.any p), H) := by
  obtain ⟨n, hn, hn2⟩ : ∃ n : Int, eval tbl (fun _ => none) n_slices_IndexFunc_int_int [.sl 1 (l.map fun a => [V.int .i64 (e a)]), .fn (.func f) first cap] H = some (.int .i64 n, H) ∧ decide (0 ≤ n) = l.any p := by
    rw [eval_M rfl rfl t_slices_IndexFunc_int_int rfl]
    simp [c_slices_IndexFunc_int_int]
    refine IndexFunc_int_int_loop hp e l hl p H _ hf (fun o => ∃ n : Int, o = some (.int .i64 n, H) ∧ decide (0 ≤ n) = l.any p) _ (fun φ' i h g => ?_) (fun φ' h => ?_) l.length 0 _ (by omega) (by simp) (by simp) (by simp) (by simp) (by simp)
    · exact ⟨i, by simp [g], by rw [h]; simp⟩
    · exact ⟨-1, by simp [r_slices_IndexFunc_int_int_0], by rw [h]; simp⟩
  rw [eval_M rfl rfl t_slices_ContainsFunc_int_int rfl]
  simp [c_slices_ContainsFunc_int_int, hn, hn2, lt_slices_IndexFunc_int_int]

end Go.AM.Spec
