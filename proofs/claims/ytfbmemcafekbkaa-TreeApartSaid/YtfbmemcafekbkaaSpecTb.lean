/-
  The parts of this proof that speak of the functions one by one.
-/
import Derived.Test.YtfbmemcafekbkaaSpecTa
import Derived.Test.YtfbmemcafekbkaaTyl
namespace Go.AM.Spec
set_option linter.unusedVariables false
set_option linter.unusedSimpArgs false
set_option maxHeartbeats 1000000
set_option maxRecDepth 10000

def HasOK (op : Int) (l : List Sm) : Prop := eval tbl noExt n_flotsamlaw16_has [.sl 7 (Sm.rows l), .int .i64 op] [] = some (.bool (hasOp op l), [])

theorem has_loop (op : Int) (l : List Sm) (hl : l.length ≤ 20000) (hf : ∀ e ∈ l, ∀ b ∈ e.blocks, HasOK op b) (Q : Option (V × Heap) → Prop) (k : List Item)
    (hret : ∀ φ', hasOp op l = true → Fr.get φ' 4 = .bool true → Q (retK k φ' [])) (hexit : ∀ φ', hasOp op l = false → Q (M (eval tbl noExt) k φ' [])) :
    ∀ (j i : Nat) (φ : Fr), i + j = l.length → hasOp op l = hasOp op (l.drop i) → Fr.get φ 0 = .sl 7 (Sm.rows l) → Fr.get φ 1 = .int .i64 op → Fr.get φ 5 = .int .i64 i →
      Q (M (eval tbl noExt) (.code l_flotsamlaw16_has_0 :: .blk 0 :: k) φ []) := by
  have hrl := Sm.rows_len l
  intro j
  induction j with
  | zero =>
    intro i φ hj hs h0 h1 h5
    have hi : ¬ ((i : Int) < l.length) := by omega
    rw [List.drop_of_length_le (by omega)] at hs
    rw [l_flotsamlaw16_has_0, M_loop, ← l_flotsamlaw16_has_0]
    simp [b_flotsamlaw16_has_0, h0, h1, h5, hi, hrl]
    exact hexit _ (by rw [hs]; rfl)
  | succ j ih =>
    intro i φ hj hs h0 h1 h5
    have hi : (i : Int) < l.length := by omega
    have hil : i < l.length := by omega
    obtain ⟨e, he, hmem, hd⟩ := at_some hil
    have hr := Sm.rows_at he
    have hw1 : IntKind.i64.wrap ((i : Int) + 1) = ((i + 1 : Nat) : Int) := by rw [w64 (by omega) (by omega)]; rfl
    rw [hd, hasOp_cons] at hs
    have hcall := hf e hmem
    obtain ⟨op', s, n, x, b, c, g⟩ := e
    have hb := hcall b (by simp [Sm.blocks])
    have hc := hcall c (by simp [Sm.blocks])
    simp only [HasOK] at hb hc
    simp only [Sm.cells] at hr
    simp only [Sm.inner, hasOp_append, Sm.op] at hs
    have hend := ih (i + 1)
    rw [l_flotsamlaw16_has_0, M_loop, ← l_flotsamlaw16_has_0]
    by_cases ho : op' = op
    · simp [b_flotsamlaw16_has_0, h0, h1, h5, hi, hrl, hr, ho]
      exact hret _ (by rw [hs]; simp [ho]) (by simp)
    · cases hvb : hasOp op b with
      | true =>
        rw [hvb] at hb hs
        simp [b_flotsamlaw16_has_0, h0, h1, h5, hi, hrl, hr, ho, hb]
        exact hret _ (by rw [hs]; simp) (by simp)
      | false =>
        rw [hvb] at hb hs
        cases hvc : hasOp op c with
        | true =>
          rw [hvc] at hc hs
          simp [b_flotsamlaw16_has_0, h0, h1, h5, hi, hrl, hr, ho, hb, hc]
          exact hret _ (by rw [hs]; simp) (by simp)
        | false =>
          rw [hvc] at hc hs
          simp [b_flotsamlaw16_has_0, h0, h1, h5, hi, hrl, hr, ho, hb, hc, hw1]
          exact hend _ (by omega) (by rw [hs]; simp [ho]) (by simp [h0]) (by simp [h1]) (by simp)

theorem has_step (op : Int) (l : List Sm) (hl : l.length ≤ 20000) (hf : ∀ e ∈ l, ∀ b ∈ e.blocks, HasOK op b) : HasOK op l := by
  unfold HasOK
  rw [eval_M rfl rfl t_flotsamlaw16_has rfl]
  simp [c_flotsamlaw16_has]
  refine has_loop op l hl hf (fun o => o = some (.bool (hasOp op l), [])) _ (fun φ' hs g => ?_) (fun φ' hs => ?_) l.length 0 _ (by omega) (by simp) (by simp) (by simp) (by simp)
  · simp [g, hs]
  · simp [r_flotsamlaw16_has_0, hs]

theorem has_ok (op : Int) : ∀ (n : Nat) (l : List Sm), Sm.sizes l ≤ n → n ≤ 20000 → HasOK op l := by
  intro n
  induction n with
  | zero =>
    intro l h hn
    cases l with
    | nil => exact has_step op [] (by simp) (fun e he => by simp at he)
    | cons e l => have := e.inner_size; simp only [Sm.sizes] at h; omega
  | succ n ih =>
    intro l h hn
    have hl := Sm.sizes_ge l
    refine has_step op l (by omega) (fun e he b hb => ?_)
    have h1 := Sm.sizes_mem he
    obtain ⟨op', s, w, x, b', c, g⟩ := e
    simp only [Sm.size] at h1
    simp only [Sm.blocks, List.mem_cons, List.not_mem_nil, or_false] at hb
    rcases hb with rfl | rfl
    · exact ih _ (by omega) (by omega)
    · exact ih _ (by omega) (by omega)

end Go.AM.Spec

namespace Go.AM.Spec
set_option linter.unusedVariables false
set_option linter.unusedSimpArgs false
set_option maxHeartbeats 1000000

/-- A yield that takes statements down: what it has of them lies in the memory's first part. -/
def YS (i : Nat) (hp : List Sm → Heap) (N : Nat) : Prop :=
  ∀ (x : List Sm) (s : Sm) (L : Heap), s.size ≤ 20000 → x.length < N → eval tbl noExt (yNo i) [.agg s.cells] (hp x ++ L) = some (.bool true, hp (x ++ [s]) ++ L)

theorem walk_eq (l : List (List V)) (H : Heap) : eval tbl noExt n_tree_walk [.sl 7 l] H = some (.fn (.func n_tree_walk_1) [] [.ptr H.length 0], H ++ [some [V.sl 7 l]]) := by
  rw [eval_M rfl rfl t_tree_walk rfl]
  simp [c_tree_walk]

/-- The inner loop's round hands its statement on. -/
theorem inner_round {i m N j p : Nat} {hp : List Sm → Heap} (hlen : ∀ x, (hp x).length = m) (hy : YS i hp N) (A : Heap) (hj : j = m + A.length)
    (hp2 : ∀ x L, ((hp x ++ A) ++ L)[p]? = some (some [.yld i])) :
    YS j (fun x => hp x ++ (A ++ [some [V.lrec 0 0 q_tree_walk_1_0 [30] [2] [V.ptr p 0]]])) N := by
  intro x s L hs hx
  have hrec : ∀ (x : List Sm) (r : List V) (L : Heap), (hp x ++ (A ++ some r :: L))[j]? = some (some r) := by
    intro x r L
    rw [hj, at_hp (hlen x)]; simp
  have hset : ∀ (x : List Sm) (r r' : List V) (L : Heap), (hp x ++ (A ++ some r :: L)).set j (some r') = hp x ++ (A ++ some r' :: L) := by
    intro x r r' L
    rw [hj, set_hp (hlen x)]; simp
  have hp3 : ∀ x L, (hp x ++ (A ++ L))[p]? = some (some [.yld i]) := fun x L => by rw [← List.append_assoc]; exact hp2 x L
  have h1 : recAt (hp x ++ (A ++ some [V.lrec 0 0 q_tree_walk_1_0 [30] [2] [V.ptr p 0]] :: L)) j = some (0, 0, q_tree_walk_1_0, [30], [2], [.ptr p 0]) := by
    unfold recAt; rw [hrec]
  obtain ⟨op, w, n, e, b, c, g⟩ := s
  have e1 : hp x ++ (A ++ [some [V.lrec 0 0 q_tree_walk_1_0 [30] [2] [V.ptr p 0]]]) ++ L = hp x ++ (A ++ some [V.lrec 0 0 q_tree_walk_1_0 [30] [2] [V.ptr p 0]] :: L) := by simp
  show eval tbl noExt (yNo j) _ (hp x ++ (A ++ [some [V.lrec 0 0 q_tree_walk_1_0 [30] [2] [V.ptr p 0]]]) ++ L) = some (_, hp (x ++ [_]) ++ (A ++ [some [V.lrec 0 0 q_tree_walk_1_0 [30] [2] [V.ptr p 0]]]) ++ L)
  rw [e1, eval_Y h1 u_tree_walk_1_0 rfl]
  have hlenx : ∀ x, (hp x).length = m := hlen
  have hy' := hy x (.mk op w n e b c g)
  simp only [Sm.cells] at hy' ⊢
  have hlast : ∀ (x : List Sm) (r z : List V) (L : Heap), (hp x ++ (A ++ some r :: (L ++ [some z])))[m + (A.length + (L.length + 1))]? = some (some z) := by
    intro x r z L
    rw [at_hp (hlen x)]
    rw [List.getElem?_append_right (by omega)]
    simp [Nat.add_sub_cancel_left]
  have hsetl : ∀ (x : List Sm) (r z z' : List V) (L : Heap), (hp x ++ (A ++ some r :: (L ++ [some z]))).set (m + (A.length + (L.length + 1))) (some z') = hp x ++ (A ++ some r :: (L ++ [some z'])) := by
    intro x r z z' L
    rw [set_hp (hlen x), List.set_append_right _ _ (by omega)]
    simp [Nat.add_sub_cancel_left]
  have htake : ∀ (x : List Sm) (r z : List V) (L : Heap), (hp x ++ (A ++ some r :: (L ++ [some z]))).take (m + (A.length + (L.length + 1))) = hp x ++ (A ++ some r :: L) := by
    intro x r z L
    rw [take_hp (hlen x), List.take_append, List.take_of_length_le (by omega)]
    simp [Nat.add_sub_cancel_left]
  simp [a_tree_walk_1_0, y_tree_walk_1_0, hlenx, hlast, hsetl, recAt, hrec, hset, hp3, hy' _ hs hx, endRound, pendOf, htake]

/-- The walk hands all statements of a block to its yield. -/
def WalkOK (l : List Sm) : Prop := ∀ (i m N p : Nat) (hp : List Sm → Heap) (L : Heap) (x : List Sm), (∀ x, (hp x).length = m) → YS i hp N → (∀ x, (hp x ++ L)[p]? = some (some [V.sl 7 (Sm.rows l)])) → x.length + (Sm.flats l).length ≤ N →
  eval tbl noExt n_tree_walk_1 [.yld i, .ptr p 0] (hp x ++ L) = some (.tup [], hp (x ++ Sm.flats l) ++ L)

theorem inner_loop {i m N q : Nat} {hp : List Sm → Heap} (hlen : ∀ x, (hp x).length = m) (hy : YS i hp N) (L0 : Heap) (hq : L0[q]? = some (some [.yld i])) (v8 v9 v10 : V) (bs : List (List Sm)) (hbs : ∀ b ∈ bs, WalkOK b) (hb2 : bs.length ≤ 2)
    (R : Option (V × Heap)) (k : List Item) :
    ∀ (j t : Nat) (x : List Sm) (φ : Fr) (T : Heap), t + j = bs.length → x.length + (Sm.flats (bs.drop t).flatten).length ≤ N → Fr.get φ 2 = .ptr (m + q) 0 → Fr.get φ 8 = v8 → Fr.get φ 9 = v9 → Fr.get φ 10 = v10 → Fr.get φ 22 = .own 1 (bs.map fun b => [.sl 7 (Sm.rows b)]) → Fr.get φ 23 = .int .i64 bs.length → Fr.get φ 24 = .int .i64 t →
      (∀ φ' T', Fr.get φ' 2 = .ptr (m + q) 0 → Fr.get φ' 8 = v8 → Fr.get φ' 9 = v9 → Fr.get φ' 10 = v10 → M (eval tbl noExt) k φ' (hp (x ++ Sm.flats (bs.drop t).flatten) ++ (L0 ++ T')) = R) →
      M (eval tbl noExt) (.code l_tree_walk_1_0 :: .blk 2 :: k) φ (hp x ++ (L0 ++ T)) = R := by
  intro j
  induction j with
  | zero =>
    intro t x φ T hj hN h2 h8 h9 h10 h22 h23 h24 hexit
    have hi : ¬ ((t : Int) < bs.length) := by omega
    rw [List.drop_of_length_le (by omega)] at hexit
    simp only [List.flatten_nil, Sm.flats, List.append_nil] at hexit
    rw [l_tree_walk_1_0, M_loop, ← l_tree_walk_1_0]
    simp [b_tree_walk_1_0, h2, h8, h9, h10, h22, h23, h24, hi]
    exact hexit _ T (by simp [h2]) (by simp [h8]) (by simp [h9]) (by simp [h10])
  | succ j ih =>
    intro t x φ T hj hN h2 h8 h9 h10 h22 h23 h24 hexit
    have hi : (t : Int) < bs.length := by omega
    have hil : t < bs.length := by omega
    obtain ⟨b, hb⟩ : ∃ b, bs[t]? = some b := ⟨bs[t], List.getElem?_eq_getElem hil⟩
    have hmem : b ∈ bs := List.mem_of_getElem? hb
    have hdrop : bs.drop t = b :: bs.drop (t + 1) := by
      rw [List.drop_eq_getElem_cons hil]
      rw [List.getElem?_eq_getElem hil] at hb
      rw [Option.some.inj hb]
    rw [hdrop] at hN hexit
    simp only [List.flatten_cons, Sm.flats_append, List.length_append, ← List.append_assoc] at hN hexit
    have hrow : (bs.map fun b => [V.sl 7 (Sm.rows b)])[t]? = some [V.sl 7 (Sm.rows b)] := by rw [List.getElem?_map, hb]; rfl
    have hw : IntKind.i64.wrap ((t : Int) + 1) = ((t + 1 : Nat) : Int) := by rw [w64 (by omega) (by omega)]; rfl
    have hbox : ∀ x L, (((hp x) ++ (L0 ++ T ++ [some [V.sl 7 (Sm.rows b)]])) ++ L)[m + q]? = some (some [.yld i]) := by
      intro x L
      have hq' : q < L0.length := by
        rw [List.getElem?_eq_some_iff] at hq; exact hq.1
      rw [List.append_assoc, at_hp (hlen x), List.append_assoc, List.append_assoc, List.getElem?_append_left hq', hq]
    have hys := inner_round (j := m + (L0.length + (T.length + 1))) hlen hy (L0 ++ T ++ [some [V.sl 7 (Sm.rows b)]]) (by simp only [List.length_append, List.length_cons, List.length_nil]; omega) hbox
    have hwk := hbs b hmem (m + (L0.length + (T.length + 1))) (m + (L0.length + (T.length + 1)) + 1) N (m + (L0.length + T.length)) (fun x => hp x ++ (L0 ++ T ++ [some [V.sl 7 (Sm.rows b)]] ++ [some [V.lrec 0 0 q_tree_walk_1_0 [30] [2] [V.ptr (m + q) 0]]])) [] x (by intro x; simp only [List.length_append, hlen, List.length_cons, List.length_nil]; omega) hys (by
      intro x
      rw [List.append_nil, at_hp (hlen x), List.append_assoc, ← List.length_append, List.getElem?_append_right (Nat.le_refl _), Nat.sub_self]
      rfl) (by omega)
    simp only [List.append_nil] at hwk
    have hread : recAt (hp (x ++ Sm.flats b) ++ (L0 ++ T ++ [some [V.sl 7 (Sm.rows b)]] ++ [some [V.lrec 0 0 q_tree_walk_1_0 [30] [2] [V.ptr (m + q) 0]]])) (m + (L0.length + (T.length + 1))) = some (0, 0, q_tree_walk_1_0, [30], [2], [.ptr (m + q) 0]) := by
      unfold recAt
      rw [at_hp (hlen _), List.getElem?_append_right (by simp)]
      simp
    have htake : (hp (x ++ Sm.flats b) ++ (L0 ++ T ++ [some [V.sl 7 (Sm.rows b)]] ++ [some [V.lrec 0 0 q_tree_walk_1_0 [30] [2] [V.ptr (m + q) 0]]])).take (m + (L0.length + (T.length + 1))) = hp (x ++ Sm.flats b) ++ (L0 ++ (T ++ [some [V.sl 7 (Sm.rows b)]])) := by
      rw [take_hp (hlen _), List.take_append_of_le_length (by simp only [List.length_append, List.length_cons, List.length_nil]; omega), List.take_of_length_le (by simp only [List.length_append, List.length_cons, List.length_nil]; omega)]
      simp
    have e1 : (L0 ++ T ++ [some [V.sl 7 (Sm.rows b)]] ++ [some [V.lrec 0 0 q_tree_walk_1_0 [30] [2] [V.ptr (m + q) 0]]] : Heap) = L0 ++ (T ++ [some [V.sl 7 (Sm.rows b)], some [V.lrec 0 0 q_tree_walk_1_0 [30] [2] [V.ptr (m + q) 0]]]) := by simp
    rw [e1] at hwk hread htake
    rw [l_tree_walk_1_0, M_loop, ← l_tree_walk_1_0]
    simp [b_tree_walk_1_0, h2, h8, h9, h10, h22, h23, h24, hi, hrow, walk_eq, lt_tree_walk, lt_tree_walk_1, hlen, hwk, hread, htake, r_tree_walk_1_0, hw]
    refine ih (t + 1) (x ++ Sm.flats b) _ (T ++ [some [V.sl 7 (Sm.rows b)]]) (by omega) (by simp; omega) ?_ ?_ ?_ ?_ ?_ ?_ ?_ ?_
    · simp [h2]
    · simp [h8]
    · simp [h9]
    · simp [h10]
    · simp [h22]
    · simp [h23]
    · simp
    · intro φ' T' g2 g8 g9 g10
      have := hexit φ' T' g2 g8 g9 g10
      simpa using this

theorem outer_loop {i m N q : Nat} {hp : List Sm → Heap} (hlen : ∀ x, (hp x).length = m) (hy : YS i hp N) (L0 : Heap) (hq : L0[q]? = some (some [V.yld i])) (l : List Sm) (hl : l.length ≤ 20000) (hbs : ∀ e ∈ l, e.size ≤ 20000 ∧ ∀ b ∈ e.blocks, WalkOK b)
    (R : Option (V × Heap)) (k : List Item) :
    ∀ (j t : Nat) (x : List Sm) (φ : Fr) (T : Heap), t + j = l.length → x.length + (Sm.flats (l.drop t)).length ≤ N → Fr.get φ 2 = .ptr (m + q) 0 → Fr.get φ 8 = .sl 7 (Sm.rows l) → Fr.get φ 9 = .int .i64 l.length → Fr.get φ 10 = .int .i64 t →
      (∀ φ' T', M (eval tbl noExt) k φ' (hp (x ++ Sm.flats (l.drop t)) ++ (L0 ++ T')) = R) →
      M (eval tbl noExt) (.code l_tree_walk_1_1 :: .blk 0 :: k) φ (hp x ++ (L0 ++ T)) = R := by
  intro j
  induction j with
  | zero =>
    intro t x φ T hj hN h2 h8 h9 h10 hexit
    have hi : ¬ ((t : Int) < l.length) := by omega
    rw [List.drop_of_length_le (by omega)] at hexit
    simp only [Sm.flats, List.append_nil] at hexit
    rw [l_tree_walk_1_1, M_loop, ← l_tree_walk_1_1]
    simp [b_tree_walk_1_1, h2, h8, h9, h10, hi]
    exact hexit _ T
  | succ j ih =>
    intro t x φ T hj hN h2 h8 h9 h10 hexit
    have hi : (t : Int) < l.length := by omega
    have hil : t < l.length := by omega
    obtain ⟨e, he⟩ : ∃ e, l[t]? = some e := ⟨l[t], List.getElem?_eq_getElem hil⟩
    have hmem : e ∈ l := List.mem_of_getElem? he
    obtain ⟨hsz, hwalk⟩ := hbs e hmem
    have hdrop : l.drop t = e :: l.drop (t + 1) := by
      rw [List.drop_eq_getElem_cons hil]
      rw [List.getElem?_eq_getElem hil] at he
      rw [Option.some.inj he]
    obtain ⟨op, w, n, ee, b, c, g⟩ := e
    rw [hdrop] at hN hexit
    simp only [Sm.flats, Sm.flat, List.length_append, List.length_cons] at hN hexit
    have hrow : (Sm.rows l)[t]? = some (Sm.cells (.mk op w n ee b c g)) := by rw [Sm.rows_eq, List.getElem?_map, he]; rfl
    have hcl : (Sm.rows l).length = l.length := by rw [Sm.rows_eq]; simp
    have hw : IntKind.i64.wrap ((t : Int) + 1) = ((t + 1 : Nat) : Int) := by rw [w64 (by omega) (by omega)]; rfl
    have hq' : q < L0.length := by
      rw [List.getElem?_eq_some_iff] at hq; exact hq.1
    have hyl : ∀ x L, (hp x ++ (L0 ++ L))[m + q]? = some (some [V.yld i]) := by
      intro x L
      rw [at_hp (hlen x), List.getElem?_append_left hq', hq]
    have hlast : ∀ (x : List Sm) (z : List V), (hp x ++ (L0 ++ (T ++ [some z])))[m + (L0.length + T.length)]? = some (some z) := by
      intro x z
      rw [at_hp (hlen x), ← List.append_assoc, ← List.length_append, List.getElem?_append_right (Nat.le_refl _), Nat.sub_self]
      rfl
    have hsetl : ∀ (x : List Sm) (z z' : List V), (hp x ++ (L0 ++ (T ++ [some z]))).set (m + (L0.length + T.length)) (some z') = hp x ++ (L0 ++ (T ++ [some z'])) := by
      intro x z z'
      rw [set_hp (hlen x), ← List.append_assoc, ← List.length_append, List.set_append_right _ _ (Nat.le_refl _), Nat.sub_self]
      simp
    have hy' := hy x (.mk op w n ee b c g)
    simp only [Sm.cells] at hy' hrow
    rw [l_tree_walk_1_1, M_loop, ← l_tree_walk_1_1]
    simp [b_tree_walk_1_1, h2, h8, h9, h10, hi, hrow, hcl, hlen, hlast, hsetl, hyl, hy' _ hsz (by omega)]
    refine inner_loop hlen hy L0 hq (.sl 7 (Sm.rows l)) (.int .i64 l.length) (.int .i64 t) [b, c] (fun z hz => hwalk z (by simpa [Sm.blocks] using hz)) (by simp) _ _ 2 0 _ _ _ (by simp) (by simp [Sm.flats_append]; omega) (by simp [h2]) (by simp [h8]) (by simp [h9]) (by simp [h10]) ?_ (by simp) (by simp) ?_
    · simp
    intro φ' T' g2 g8 g9 g10
    simp [r_tree_walk_1_1, g10, hw]
    refine ih (t + 1) _ _ T' (by omega) (by simp [Sm.flats_append]; omega) (by simp [g2]) (by simp [g8]) (by simp [g9]) (by simp) ?_
    intro φ'' T''
    have := hexit φ'' T''
    simpa [Sm.flats_append] using this

theorem walk_step (l : List Sm) (hl : l.length ≤ 20000) (hbs : ∀ e ∈ l, e.size ≤ 20000 ∧ ∀ b ∈ e.blocks, WalkOK b) : WalkOK l := by
  intro i m N p hp L x hlen hy hb hN
  have hb' : ∀ x K, (hp x ++ (L ++ K))[p]? = some (some [V.sl 7 (Sm.rows l)]) := by
    intro x K
    have h := hb x
    rw [← List.append_assoc, List.getElem?_append_left (List.getElem?_eq_some_iff.1 h).1, h]
  have hcl : (Sm.rows l).length = l.length := by rw [Sm.rows_eq]; simp
  rw [eval_M rfl rfl t_tree_walk_1 rfl]
  simp [c_tree_walk_1, hb', hlen, hcl]
  have e : hp x ++ (L ++ [some [V.yld i]]) = hp x ++ ((L ++ [some [V.yld i]]) ++ []) := by simp
  rw [e]
  refine outer_loop hlen hy (L ++ [some [V.yld i]]) (q := L.length) (by simp) l hl hbs _ _ l.length 0 x _ [] (by omega) (by simpa using hN) (by simp) (by simp) (by simp) (by simp) ?_
  intro φ' T'
  have ht : (hp (x ++ Sm.flats l) ++ (L ++ [some [V.yld i]] ++ T')).take (m + L.length) = hp (x ++ Sm.flats l) ++ L := by
    rw [take_hp (hlen _), List.append_assoc, List.take_left]
  simp at ht
  simp [ht]

theorem walk_ok : ∀ (n : Nat) (l : List Sm), Sm.sizes l ≤ n → n ≤ 20000 → WalkOK l := by
  intro n
  induction n with
  | zero =>
    intro l hl hn
    have h0 : l = [] := by
      have := Sm.sizes_ge l
      exact List.length_eq_zero_iff.1 (by omega)
    subst h0
    exact walk_step [] (by simp) (by simp)
  | succ n ih =>
    intro l hl hn
    refine walk_step l (by have := Sm.sizes_ge l; omega) fun e he => ⟨by have := Sm.sizes_mem he; omega, fun b hb => ih b ?_ (by omega)⟩
    have h1 := Sm.sizes_mem he
    obtain ⟨op, w, m, ee, b1, b2, g⟩ := e
    simp only [Sm.size] at h1
    simp only [Sm.blocks, List.mem_cons, List.not_mem_nil, or_false] at hb
    rcases hb with rfl | rfl <;> omega

/-! What Count answers. -/
theorem count_round (H : Heap) (b : List (Option (List V))) (hb : b.length = 1) :
    YS (H.length + 2) (fun x => H ++ (some [V.int .i64 x.length] :: (b ++ [some [V.lrec 0 0 q_tree_Count_0 [6] [3] [V.ptr H.length 0]]]))) 100000 := by
  intro x s L hs hx
  obtain ⟨b, rfl⟩ := List.length_eq_one_iff.1 hb
  show eval tbl noExt _ _ (H ++ (some [V.int .i64 x.length] :: ([b] ++ [some [V.lrec 0 0 q_tree_Count_0 [6] [3] [V.ptr H.length 0]]])) ++ L) = some (_, H ++ (some [V.int .i64 (x ++ [s]).length] :: ([b] ++ [some [V.lrec 0 0 q_tree_Count_0 [6] [3] [V.ptr H.length 0]]])) ++ L)
  have h1 : recAt (H ++ (some [V.int .i64 x.length] :: ([b] ++ [some [V.lrec 0 0 q_tree_Count_0 [6] [3] [V.ptr H.length 0]]])) ++ L) (H.length + 2) = some (0, 0, q_tree_Count_0, [6], [3], [V.ptr H.length 0]) := by
    unfold recAt
    rw [List.append_assoc, at_hp rfl]; simp
  have hg : ∀ (A : Heap) (k : Nat), (H ++ A)[H.length + k]? = A[k]? := fun A k => at_hp rfl A k
  have hg0 : ∀ (A : Heap), (H ++ A)[H.length]? = A[0]? := fun A => at_hp rfl A 0
  have hs' : ∀ (A : Heap) (k : Nat) v, (H ++ A).set (H.length + k) v = H ++ A.set k v := fun A k v => set_hp rfl A k v
  have hs0 : ∀ (A : Heap) v, (H ++ A).set H.length v = H ++ A.set 0 v := fun A v => set_hp rfl A 0 v
  have hw : IntKind.i64.wrap ((x.length : Int) + 1) = ((x.length + 1 : Nat) : Int) := by rw [w64 (by omega) (by omega)]; rfl
  rw [eval_Y h1 u_tree_Count_0 rfl]
  simp [a_tree_Count_0, y_tree_Count_0, recAt, hg, hg0, hs', hs0, endRound, pendOf, hw]
  rw [List.take_of_length_le (by simp)]

theorem Count_eq (l : List Sm) (hl : Sm.sizes l ≤ 20000) (H : Heap) : eval tbl noExt n_tree_Count [.sl 7 (Sm.rows l)] H = some (.int .i64 (Sm.flats l).length, H) := by
  have hfl := Sm.flats_sizes l
  have hwk := walk_ok 20000 l hl (Nat.le_refl _) (H.length + 2) (H.length + 3) 100000 (H.length + 1) _ [] [] (by intro x; simp) (count_round H [some [V.sl 7 (Sm.rows l)]] rfl) (by
    intro x
    rw [List.append_nil, at_hp rfl]; rfl) (by simp; omega)
  simp only [List.append_nil, List.nil_append, List.length_nil] at hwk
  rw [eval_M rfl rfl t_tree_Count rfl]
  have hg : ∀ (A : Heap) (k : Nat), (H ++ A)[H.length + k]? = A[k]? := fun A k => at_hp rfl A k
  have hg0 : ∀ (A : Heap), (H ++ A)[H.length]? = A[0]? := fun A => at_hp rfl A 0
  have hs0 : ∀ (A : Heap) v, (H ++ A).set H.length v = H ++ A.set 0 v := fun A v => set_hp rfl A 0 v
  have ht : ∀ (A : Heap) (k : Nat), (H ++ A).take (H.length + k) = H ++ A.take k := fun A k => take_hp rfl A k
  have ht0 : ∀ (A : Heap), (H ++ A).take H.length = H := fun A => by simp
  simp only [List.cons_append, List.nil_append, Int.cast_ofNat_Int] at hwk
  simp [c_tree_Count, walk_eq, lt_tree_walk, lt_tree_walk_1, hg, hg0, hs0, hwk, ht, recAt, r_tree_Count_0]

theorem parts_loop (call : CallF) (R : Option (V × Heap)) (n : Nat) (H : Heap) (p : Pg) (hl : p.procs.length ≤ 20000) (v1 : V) (k : List Item)
    (hexit : ∀ φ' K, K.take n = H → n ≤ K.length → Fr.get φ' 1 = v1 → Fr.get φ' 3 = .own 1 (p.procs.map fun x => brow x.2) → M call k φ' K = R) :
    ∀ (j i : Nat) (φ : Fr) (K : Heap), i + j = p.procs.length → K.take n = H → n ≤ K.length → Fr.get φ 1 = v1 → Fr.get φ 3 = .own 1 ((p.procs.take i).map fun x => brow x.2) → Fr.get φ 7 = .sl 2 p.pcells → Fr.get φ 8 = .int .i64 p.procs.length → Fr.get φ 9 = .int .i64 i →
      M call (.code l_tree_parts_0 :: .blk 0 :: k) φ K = R := by
  intro j
  induction j with
  | zero =>
    intro i φ K hj hK hn h1 h3 h7 h8 h9
    have hi : ¬ ((i : Int) < p.procs.length) := by omega
    rw [List.take_of_length_le (by omega)] at h3
    rw [l_tree_parts_0, M_loop, ← l_tree_parts_0]
    simp [b_tree_parts_0, h1, h3, h7, h8, h9, hi]
    exact hexit _ _ hK hn (by simp [h1]) (by simp [h3])
  | succ j ih =>
    intro i φ K hj hK hn h1 h3 h7 h8 h9
    have hi : (i : Int) < p.procs.length := by omega
    have hil : i < p.procs.length := by omega
    obtain ⟨e, he⟩ : ∃ e, p.procs[i]? = some e := ⟨p.procs[i], List.getElem?_eq_getElem hil⟩
    have hrow : p.pcells[i]? = some [.str e.1, .sl 7 (Sm.rows e.2)] := by rw [Pg.pcells, List.getElem?_map, he]; rfl
    have hcl : p.pcells.length = p.procs.length := by simp [Pg.pcells]
    have hck : (p.procs.take i).length = i := by simp; omega
    have hnext : ((p.procs.take i).map fun x => brow x.2) ++ [[.sl 7 (Sm.rows e.2)]] = (p.procs.take (i + 1)).map fun x => brow x.2 := by
      rw [List.take_add_one, he]; simp [brow]
    have hw : IntKind.i64.wrap ((i : Int) + 1) = ((i + 1 : Nat) : Int) := by rw [w64 (by omega) (by omega)]; rfl
    have hb : 2 * (i + 1) * 24 ≤ 281474976710656 := by omega
    have hmin : min i p.procs.length = i := by omega
    rw [l_tree_parts_0, M_loop, ← l_tree_parts_0]
    simp [b_tree_parts_0, h1, h3, h7, h8, h9, hi, hrow, hcl, hck, hmin, get0, set0, hnext, hw, hb]
    refine ih (i + 1) _ _ (by omega) (take_more hK hn _) (by simp; omega) (by simp [h1]) (by simpa using hnext) (by simp [h7]) (by simp [h8]) (by simp)

theorem parts_eq (p : Pg) (hl : p.procs.length ≤ 20000) (H : Heap) : eval tbl noExt n_tree_parts [.agg p.cells] H = some (.own 1 (p.parts.map brow), H) := by
  have hcl : p.pcells.length = p.procs.length := by simp [Pg.pcells]
  have hb : 2 * (p.procs.length + 2) * 24 ≤ 281474976710656 := by omega
  rw [eval_M rfl rfl t_tree_parts rfl]
  simp [c_tree_parts, Pg.cells, hcl]
  refine parts_loop _ _ (H.length + 1) (H ++ [some p.cells]) p hl (.ptr H.length 0) _ (fun φ' K hK hn h1 h3 => ?_) p.procs.length 0 _ _ (by omega) ?_ ?_ ?_ ?_ ?_ ?_ ?_
  · have hg : K[H.length]? = some (some p.cells) := by
      have h : (K.take (H.length + 1))[H.length]? = some (some p.cells) := by rw [hK, get0]
      rwa [List.getElem?_take_of_lt (by omega)] at h
    have ht : K.take H.length = H := by
      have h : (K.take (H.length + 1)).take H.length = H := by rw [hK]; simp
      rwa [List.take_take, Nat.min_eq_left (by omega)] at h
    simp [r_tree_parts_0, h1, h3, hg, Pg.cells, hb, ht, Pg.parts, brow]
  all_goals simp [Pg.cells, List.take_of_length_le]


/-- The lists' cell, filled by the rounds of tree.All. -/
theorem all_round (a c : List V) (hc : c = [V.ptr 1 0]) (T : Heap) (b : List (Option (List V))) (hb : b.length = 1) :
    YS (2 + (T.length + 1)) (fun x => some a :: some [V.own 7 (Sm.rows x)] :: (T ++ (b ++ [some [V.lrec 0 0 q_tree_All_0 [16] [3] c]]))) 20000 := by
  subst hc
  intro x s L hs hx
  obtain ⟨b, rfl⟩ := List.length_eq_one_iff.1 hb
  have hl : (T ++ [b]).length = T.length + 1 := by simp
  have hi : 2 + (T.length + 1) = T.length + 1 + 1 + 1 := by omega
  rw [hi]
  have e : ∀ (y : List Sm) (r : List V), (some a :: some [V.own 7 (Sm.rows y)] :: (T ++ ([b] ++ [some r])) ++ L : Heap) = some a :: some [V.own 7 (Sm.rows y)] :: ((T ++ [b]) ++ (some r :: L)) := by simp
  show eval tbl noExt _ _ (some a :: some [V.own 7 (Sm.rows x)] :: (T ++ ([b] ++ [some [V.lrec 0 0 q_tree_All_0 [16] [3] [V.ptr 1 0]]])) ++ L) = some (_, some a :: some [V.own 7 (Sm.rows (x ++ [s]))] :: (T ++ ([b] ++ [some [V.lrec 0 0 q_tree_All_0 [16] [3] [V.ptr 1 0]]])) ++ L)
  rw [e, e]
  generalize hA : T ++ [b] = A at *
  rw [← hl]
  have hg : ∀ (B : Heap), (A ++ B)[A.length]? = B[0]? := fun B => at_hp rfl B 0
  have hs0 : ∀ (B : Heap) v, (A ++ B).set A.length v = A ++ B.set 0 v := fun B v => set_hp rfl B 0 v
  have hg' : ∀ (B : Heap) k, (A ++ B)[A.length + k]? = B[k]? := fun B k => at_hp rfl B k
  have hs' : ∀ (B : Heap) k v, (A ++ B).set (A.length + k) v = A ++ B.set k v := fun B k v => set_hp rfl B k v
  have ht' : ∀ (B : Heap) k, (A ++ B).take (A.length + k) = A ++ B.take k := fun B k => take_hp rfl B k
  have h1 : recAt (some a :: some [V.own 7 (Sm.rows x)] :: (A ++ (some [V.lrec 0 0 q_tree_All_0 [16] [3] [V.ptr 1 0]] :: L))) (A.length + 1 + 1) = some (0, 0, q_tree_All_0, [16], [3], [V.ptr 1 0]) := by
    unfold recAt
    simp [hg]
  rw [eval_Y h1 u_tree_All_0 rfl]
  have hcl : (Sm.rows x).length = x.length := by rw [Sm.rows_eq]; simp
  have hnext : Sm.rows (x ++ [s]) = Sm.rows x ++ [s.cells] := by simp [Sm.rows_eq]
  have hcall := cloned_eq 20000 s (by omega) (Nat.le_refl _) []
  rw [hnext]
  obtain ⟨op, w, n, ee, b1, b2, g⟩ := s
  simp only [Sm.cells] at hcall ⊢
  have hb2 : 2 * (x.length + 1) * 112 ≤ 281474976710656 := by omega
  have hlt : (x.length : Int) < x.length + 1 := by omega
  have hno : (Sm.rows x)[x.length]? = none := by rw [List.getElem?_eq_none_iff, hcl]; exact Nat.le_refl _
  simp [hlt, hno, a_tree_All_0, y_tree_All_0, recAt, hg, hs0, hg', hs', hcl, hcall, hb2, lt_tree_cloned, frzMix, endRound, pendOf, ht']


theorem all_loop (a : List V) (bs : List (List Sm)) (hbs : ∀ b ∈ bs, WalkOK b) (hb2 : bs.length ≤ 20002) (R : Option (V × Heap)) (k : List Item) :
    ∀ (j t : Nat) (x : List Sm) (φ : Fr) (T : Heap), t + j = bs.length → x.length + (Sm.flats (bs.drop t).flatten).length ≤ 20000 → Fr.get φ 3 = .ptr 1 0 → Fr.get φ 8 = .own 1 (bs.map brow) → Fr.get φ 9 = .int .i64 bs.length → Fr.get φ 10 = .int .i64 t →
      (∀ φ' T', Fr.get φ' 3 = .ptr 1 0 → M (eval tbl noExt) k φ' (some a :: some [V.own 7 (Sm.rows (x ++ Sm.flats (bs.drop t).flatten))] :: T') = R) →
      M (eval tbl noExt) (.code l_tree_All_0 :: .blk 0 :: k) φ (some a :: some [V.own 7 (Sm.rows x)] :: T) = R := by
  intro j
  induction j with
  | zero =>
    intro t x φ T hj hN h3 h8 h9 h10 hexit
    have hi : ¬ ((t : Int) < bs.length) := by omega
    rw [List.drop_of_length_le (by omega)] at hexit
    simp only [List.flatten_nil, Sm.flats, List.append_nil] at hexit
    rw [l_tree_All_0, M_loop, ← l_tree_All_0]
    simp [b_tree_All_0, h3, h8, h9, h10, hi]
    exact hexit _ T (by simp [h3])
  | succ j ih =>
    intro t x φ T hj hN h3 h8 h9 h10 hexit
    have hi : (t : Int) < bs.length := by omega
    have hil : t < bs.length := by omega
    obtain ⟨b, hb⟩ : ∃ b, bs[t]? = some b := ⟨bs[t], List.getElem?_eq_getElem hil⟩
    have hmem : b ∈ bs := List.mem_of_getElem? hb
    have hdrop : bs.drop t = b :: bs.drop (t + 1) := by
      rw [List.drop_eq_getElem_cons hil]
      rw [List.getElem?_eq_getElem hil] at hb
      rw [Option.some.inj hb]
    rw [hdrop] at hN hexit
    simp only [List.flatten_cons, Sm.flats_append, List.length_append, ← List.append_assoc] at hN hexit
    have hrow : (bs.map brow)[t]? = some [.sl 7 (Sm.rows b)] := by rw [List.getElem?_map, hb]; rfl
    have hw : IntKind.i64.wrap ((t : Int) + 1) = ((t + 1 : Nat) : Int) := by rw [w64 (by omega) (by omega)]; rfl
    have hys := all_round a [V.ptr 1 0] rfl T [some [V.sl 7 (Sm.rows b)]] rfl
    have hwk := hbs b hmem (2 + (T.length + 1)) (2 + (T.length + 1) + 1) 20000 (T.length + 1 + 1) _ [] x (by intro x; simp only [List.length_append, List.length_cons, List.length_nil]; omega) hys (by
      intro x
      rw [List.append_nil, List.getElem?_cons_succ, List.getElem?_cons_succ, List.getElem?_append_right (Nat.le_refl _), Nat.sub_self]
      rfl) (by omega)
    simp only [List.append_nil] at hwk
    rw [show 2 + (T.length + 1) = T.length + 1 + 1 + 1 by omega] at hwk
    have hread : ∀ y : List Sm, recAt (some a :: some [V.own 7 (Sm.rows y)] :: (T ++ ([some [V.sl 7 (Sm.rows b)]] ++ [some [V.lrec 0 0 q_tree_All_0 [16] [3] [V.ptr 1 0]]]))) (T.length + 1 + 1 + 1) = some (0, 0, q_tree_All_0, [16], [3], [V.ptr 1 0]) := by
      intro y
      unfold recAt
      rw [List.getElem?_cons_succ, List.getElem?_cons_succ, List.getElem?_append_right (by omega)]
      simp [Nat.add_sub_cancel_left]
    have htake : ∀ y : List Sm, (some a :: some [V.own 7 (Sm.rows y)] :: (T ++ ([some [V.sl 7 (Sm.rows b)]] ++ [some [V.lrec 0 0 q_tree_All_0 [16] [3] [V.ptr 1 0]]])) : Heap).take (T.length + 1 + 1 + 1) = some a :: some [V.own 7 (Sm.rows y)] :: (T ++ [some [V.sl 7 (Sm.rows b)]]) := by
      intro y
      rw [List.take_succ_cons, List.take_succ_cons, ← List.append_assoc, List.take_append_of_le_length (by simp), List.take_of_length_le (by simp)]
    simp only [List.cons_append, List.nil_append] at hwk hread htake
    rw [l_tree_All_0, M_loop, ← l_tree_All_0]
    simp [b_tree_All_0, h3, h8, h9, h10, hi, hrow, walk_eq, lt_tree_walk, lt_tree_walk_1, hwk, hread, htake, r_tree_All_0, hw]
    refine ih (t + 1) (x ++ Sm.flats b) _ (T ++ [some [V.sl 7 (Sm.rows b)]]) (by omega) (by simp; omega) (by simp [h3]) (by simp [h8]) (by simp [h9]) (by simp) ?_
    intro φ' T' g3
    have := hexit φ' T' g3
    simpa using this

theorem All_eq (p : Pg) (hp : p.size ≤ 20000) : eval tbl noExt n_tree_All [.agg p.cells] [] = some (.sl 7 (Sm.rows p.flats), []) := by
  have hsz := p.parts_size
  have hfl := Sm.flats_sizes p.parts.flatten
  have hpl : p.parts.length = p.procs.length + 2 := by simp [Pg.parts]
  have hparts := parts_eq p (by omega) []
  rw [eval_M rfl rfl t_tree_All rfl]
  simp only [Pg.cells] at hparts ⊢
  simp [c_tree_All, hparts, lt_tree_parts]
  refine all_loop p.cells p.parts (fun b hb => walk_ok 20000 b (by have := sizes_flatten hb; omega) (Nat.le_refl _)) (by omega) _ _ p.parts.length 0 [] _ [] (by omega) (by simpa using by omega) ?_ ?_ ?_ ?_ ?_
  · simp
  · simp
  · simp
  · simp
  · intro φ' T' g3
    simp [r_tree_All_1, g3, Pg.flats]

end Go.AM.Spec

namespace Go.AM.Spec
set_option linter.unusedVariables false
set_option linter.unusedSimpArgs false
set_option maxHeartbeats 1000000

def SzE (e : Ex) : Prop := ∀ left : Int, -1000 ≤ left → left ≤ 1000 → ∃ r : Int, eval tbl noExt n_flotsamref16_expr [.agg e.cells, .int .i64 left] [] = some (.int .i64 r, []) ∧ -1000 ≤ r ∧ r ≤ 1001 ∧ (r ≤ left → r = e.size ∧ e.txt)
def SzB (l : List Sm) : Prop := ∀ left : Int, -1000 ≤ left → left ≤ 1000 → ∃ r : Int, eval tbl noExt n_flotsamref16_block [.sl 7 (Sm.rows l), .int .i64 left] [] = some (.int .i64 r, []) ∧ -1000 ≤ r ∧ r ≤ 1001 ∧ (r ≤ left → r = Sm.sizes l ∧ Sm.txts l)

theorem wi {n : Int} (h1 : -100000 ≤ n) (h2 : n ≤ 100000) : IntKind.i64.wrap n = n := w64 (by omega) (by omega)

theorem expr_loop (a0 a1 a2 : V) (l : List Ex) (left : Int) (h1l : left ≤ 1000) (hf : ∀ e ∈ l, SzE e) (Q : Option (V × Heap) → Prop) (k : List Item)
    (hret : ∀ φ', Fr.get φ' 4 = .int .i64 (left + 1) → Q (retK k φ' [some [a0, a1, a2, .sl 4 (Ex.rows l)]]))
    (hexit : ∀ φ', Fr.get φ' 5 = .int .i64 (1 + Ex.sizes l) → 1 + (Ex.sizes l : Int) ≤ left → Ex.txts l → Q (M (eval tbl noExt) k φ' [some [a0, a1, a2, .sl 4 (Ex.rows l)]])) :
    ∀ (j i : Nat) (φ : Fr), i + j = l.length → 1 + (Ex.sizes (l.take i) : Int) ≤ left → Ex.txts (l.take i) → Fr.get φ 1 = .int .i64 left → Fr.get φ 2 = .ptr 0 0 → Fr.get φ 5 = .int .i64 (1 + Ex.sizes (l.take i)) → Fr.get φ 6 = .int .i64 i →
      Q (M (eval tbl noExt) (.code l_flotsamref16_expr_0 :: .blk 0 :: k) φ [some [a0, a1, a2, .sl 4 (Ex.rows l)]]) := by
  intro j
  induction j with
  | zero =>
    intro i φ hj hle ht h1 h2 h5 h6
    have hi : ¬ ((i : Int) < l.length) := by omega
    rw [List.take_of_length_le (by omega)] at hle ht h5
    rw [l_flotsamref16_expr_0, M_loop, ← l_flotsamref16_expr_0]
    simp [b_flotsamref16_expr_0, h1, h2, h5, h6, hi, Ex.rows_len]
    exact hexit _ (by simp [h5]) hle ht
  | succ j ih =>
    intro i φ hj hle ht h1 h2 h5 h6
    have hi : (i : Int) < l.length := by omega
    obtain ⟨e, he, hmem, hd⟩ := at_some (l := l) (i := i) (by omega)
    have hre := Ex.rows_at he
    have hi2 := Ex.sizes_ge (l.take i)
    rw [List.length_take, Nat.min_eq_left (by omega)] at hi2
    have hw : IntKind.i64.wrap ((i : Int) + 1) = ((i + 1 : Nat) : Int) := by rw [wi (by omega) (by omega)]; rfl
    obtain ⟨r, hr, hr0, hr1, hr2⟩ := hf e hmem (left - (1 + Ex.sizes (l.take i))) (by omega) (by omega)
    obtain ⟨c0, c1, c2, c3, hc⟩ := e.cells_shape
    rw [hc] at hr hre
    have hw1 : IntKind.i64.wrap (left - (1 + (Ex.sizes (l.take i) : Int))) = left - (1 + (Ex.sizes (l.take i) : Int)) := wi (by omega) (by omega)
    have hw2 : IntKind.i64.wrap (1 + (Ex.sizes (l.take i) : Int) + r) = 1 + (Ex.sizes (l.take i) : Int) + r := wi (by omega) (by omega)
    have hw3 : IntKind.i64.wrap (left + 1) = left + 1 := wi (by omega) (by omega)
    have hnext := take_next he
    rw [l_flotsamref16_expr_0, M_loop, ← l_flotsamref16_expr_0]
    by_cases hgt : left < 1 + (Ex.sizes (l.take i) : Int) + r
    · simp [b_flotsamref16_expr_0, h1, h2, h5, h6, hi, Ex.rows_len, hre, hw1, hr, hw2, hgt, hw3, lt_flotsamref16_expr]
      exact hret _ (by simp)
    · obtain ⟨hr3, hr4⟩ := hr2 (by omega)
      have hsz : 1 + (Ex.sizes (l.take i) : Int) + r = 1 + (Ex.sizes (l.take (i + 1)) : Int) := by
        rw [hnext, Ex.sizes_append]; simp only [Ex.sizes]; omega
      simp [b_flotsamref16_expr_0, h1, h2, h5, h6, hi, Ex.rows_len, hre, hw1, hr, hw2, hgt, hw, lt_flotsamref16_expr]
      refine ih (i + 1) _ (by omega) (by omega) (by rw [hnext, Ex.txts_append]; exact ⟨ht, hr4, trivial⟩) (by simp [h1]) (by simp [h2]) (by simp [hsz]) (by simp)

theorem expr_ok : ∀ (n : Nat) (e : Ex), e.size ≤ n → SzE e := by
  intro n
  induction n with
  | zero => intro e h; cases e; simp only [Ex.size] at h; omega
  | succ n ih =>
    intro e h left hl0 hl1
    obtain ⟨op, w, s, x⟩ := e
    simp only [Ex.size] at h
    have hw3 : IntKind.i64.wrap (left + 1) = left + 1 := wi (by omega) (by omega)
    rw [eval_M rfl rfl t_flotsamref16_expr rfl]
    by_cases h1 : left < 1
    · refine ⟨left + 1, ?_, by omega, by omega, fun h => by omega⟩
      simp [c_flotsamref16_expr, Ex.cells, h1, hw3]
    · by_cases h2 : 300 < s.length
      · have h2' : (300 : Int) < s.length := by omega
        refine ⟨left + 1, ?_, by omega, by omega, fun h => by omega⟩
        simp [c_flotsamref16_expr, Ex.cells, h1, h2', hw3]
      · have h2' : ¬ (300 : Int) < s.length := by omega
        simp [c_flotsamref16_expr, Ex.cells, h1, h2']
        refine expr_loop _ _ _ x left hl1 (fun e he => ih e (by have := Ex.sizes_mem he; omega)) (fun o => ∃ r : Int, o = some (.int .i64 r, []) ∧ -1000 ≤ r ∧ r ≤ 1001 ∧ (r ≤ left → r = (Ex.mk op w s x).size ∧ (Ex.mk op w s x).txt)) _ (fun φ' g => ?_) (fun φ' g hle ht => ?_) x.length 0 _ (by omega) (by simp [Ex.sizes]; omega) (by simp [Ex.txts]) (by simp) (by simp) (by simp [Ex.sizes]) (by simp)
        · exact ⟨left + 1, by simp [g], by omega, by omega, fun h => by omega⟩
        · refine ⟨1 + Ex.sizes x, by simp [r_flotsamref16_expr_0, g], by omega, by omega, fun h => ⟨by simp [Ex.size], ?_⟩⟩
          simp only [Ex.txt]
          exact ⟨by omega, ht⟩


/-- The expressions of a statement. -/
theorem block_inner (l : List Sm) (i0 : Nat) (op : Int) (s : List UInt8) (w : Int) (x : List Ex) (b c : List Sm) (g : Bool) (hi0 : (i0 : Int) < l.length) (hrow : (Sm.rows l)[i0]? = some (Sm.cells (.mk op s w x b c g))) (left n0 : Int) (hl0 : -1000 ≤ left) (h1l : left ≤ 1000) (hn0 : 0 ≤ n0) (Q : Option (V × Heap) → Prop) (k : List Item)
    (hret : ∀ φ', Fr.get φ' 4 = .int .i64 (left + 1) → Q (retK k φ' []))
    (hexit : ∀ φ', Fr.get φ' 0 = .sl 7 (Sm.rows l) → Fr.get φ' 1 = .int .i64 left → Fr.get φ' 6 = .int .i64 i0 → Fr.get φ' 5 = .int .i64 (n0 + Ex.sizes x) → n0 + (Ex.sizes x : Int) ≤ left → Ex.txts x → Q (M (eval tbl noExt) k φ' [])) :
    ∀ (j i : Nat) (φ : Fr), i + j = x.length → n0 + (Ex.sizes (x.take i) : Int) ≤ left → Ex.txts (x.take i) → Fr.get φ 0 = .sl 7 (Sm.rows l) → Fr.get φ 1 = .int .i64 left → Fr.get φ 6 = .int .i64 i0 → Fr.get φ 5 = .int .i64 (n0 + Ex.sizes (x.take i)) → Fr.get φ 7 = .int .i64 i →
      Q (M (eval tbl noExt) (.code l_flotsamref16_block_0 :: .blk 2 :: k) φ []) := by
  simp only [Sm.cells] at hrow
  intro j
  induction j with
  | zero =>
    intro i φ hj hle ht h0 h1 h6 h5 h7
    have hi : ¬ ((i : Int) < x.length) := by omega
    rw [List.take_of_length_le (by omega)] at hle ht h5
    rw [l_flotsamref16_block_0, M_loop, ← l_flotsamref16_block_0]
    simp [b_flotsamref16_block_0, h0, h1, h5, h6, h7, hi, hi0, hrow, Ex.rows_len, Sm.rows_len]
    exact hexit _ (by simp [h0]) (by simp [h1]) (by simp [h6]) (by simp [h5]) hle ht
  | succ j ih =>
    intro i φ hj hle ht h0 h1 h6 h5 h7
    have hi : (i : Int) < x.length := by omega
    obtain ⟨e, he, hmem, hd⟩ := at_some (l := x) (i := i) (by omega)
    have hre := Ex.rows_at he
    have hi2 := Ex.sizes_ge (x.take i)
    rw [List.length_take, Nat.min_eq_left (by omega)] at hi2
    have hw : IntKind.i64.wrap ((i : Int) + 1) = ((i + 1 : Nat) : Int) := by rw [wi (by omega) (by omega)]; rfl
    obtain ⟨r, hr, hr0, hr1, hr2⟩ := expr_ok e.size e (Nat.le_refl _) (left - (n0 + Ex.sizes (x.take i))) (by omega) (by omega)
    obtain ⟨c0, c1, c2, c3, hc⟩ := e.cells_shape
    rw [hc] at hr hre
    have hw1 : IntKind.i64.wrap (left - (n0 + (Ex.sizes (x.take i) : Int))) = left - (n0 + (Ex.sizes (x.take i) : Int)) := wi (by omega) (by omega)
    have hw2 : IntKind.i64.wrap (n0 + (Ex.sizes (x.take i) : Int) + r) = n0 + (Ex.sizes (x.take i) : Int) + r := wi (by omega) (by omega)
    have hw3 : IntKind.i64.wrap (left + 1) = left + 1 := wi (by omega) (by omega)
    have hnext := take_next he
    rw [l_flotsamref16_block_0, M_loop, ← l_flotsamref16_block_0]
    by_cases hgt : left < n0 + (Ex.sizes (x.take i) : Int) + r
    · simp [b_flotsamref16_block_0, h0, h1, h5, h6, h7, hi, hi0, hrow, Ex.rows_len, Sm.rows_len, hre, hw1, hr, hw2, hgt, hw3, lt_flotsamref16_expr]
      exact hret _ (by simp)
    · obtain ⟨hr3, hr4⟩ := hr2 (by omega)
      have hsz : n0 + (Ex.sizes (x.take i) : Int) + r = n0 + (Ex.sizes (x.take (i + 1)) : Int) := by
        rw [hnext, Ex.sizes_append]; simp only [Ex.sizes]; omega
      simp [b_flotsamref16_block_0, h0, h1, h5, h6, h7, hi, hi0, hrow, Ex.rows_len, Sm.rows_len, hre, hw1, hr, hw2, hgt, hw, lt_flotsamref16_expr]
      refine ih (i + 1) _ (by omega) (by omega) (by rw [hnext, Ex.txts_append]; exact ⟨ht, hr4, trivial⟩) (by simp [h0]) (by simp [h1]) (by simp [h6]) (by simp [hsz]) (by simp)

theorem sblock_loop (l : List Sm) (left : Int) (hl0 : -1000 ≤ left) (h1l : left ≤ 1000) (hf : ∀ e ∈ l, ∀ b ∈ e.blocks, SzB b) (Q : Option (V × Heap) → Prop) (k : List Item)
    (hret : ∀ φ', Fr.get φ' 4 = .int .i64 (left + 1) → Q (retK k φ' []))
    (hexit : ∀ φ', Fr.get φ' 5 = .int .i64 (Sm.sizes l) → (Sm.sizes l : Int) ≤ 1000 → Sm.txts l → Q (M (eval tbl noExt) k φ' [])) :
    ∀ (j i : Nat) (φ : Fr), i + j = l.length → (Sm.sizes (l.take i) : Int) ≤ 1000 → Sm.txts (l.take i) → Fr.get φ 0 = .sl 7 (Sm.rows l) → Fr.get φ 1 = .int .i64 left → Fr.get φ 5 = .int .i64 (Sm.sizes (l.take i)) → Fr.get φ 6 = .int .i64 i →
      Q (M (eval tbl noExt) (.code l_flotsamref16_block_1 :: .blk 0 :: k) φ []) := by
  intro j
  induction j with
  | zero =>
    intro i φ hj hle ht h0 h1 h5 h6
    have hi : ¬ ((i : Int) < l.length) := by omega
    rw [List.take_of_length_le (by omega)] at hle ht h5
    rw [l_flotsamref16_block_1, M_loop, ← l_flotsamref16_block_1]
    simp [b_flotsamref16_block_1, h0, h1, h5, h6, hi, Sm.rows_len]
    exact hexit _ (by simp [h5]) hle ht
  | succ j ih =>
    intro i φ hj hle ht h0 h1 h5 h6
    have hi : (i : Int) < l.length := by omega
    obtain ⟨e, he, hmem, hd⟩ := at_some (l := l) (i := i) (by omega)
    have hre := Sm.rows_at he
    have hi2 := Sm.sizes_ge (l.take i)
    rw [List.length_take, Nat.min_eq_left (by omega)] at hi2
    have hw : IntKind.i64.wrap ((i : Int) + 1) = ((i + 1 : Nat) : Int) := by rw [wi (by omega) (by omega)]; rfl
    have hfe := hf e hmem
    have hnext := take_next he
    obtain ⟨op, s, w, x, b, c, g⟩ := e
    have hre' := hre
    simp only [Sm.cells] at hre
    have hw1 : IntKind.i64.wrap ((Sm.sizes (l.take i) : Int) + 1) = (Sm.sizes (l.take i) : Int) + 1 := wi (by omega) (by omega)
    have hw3 : IntKind.i64.wrap (left + 1) = left + 1 := wi (by omega) (by omega)
    rw [l_flotsamref16_block_1, M_loop, ← l_flotsamref16_block_1]
    by_cases hgt : left < (Sm.sizes (l.take i) : Int) + 1
    · simp [b_flotsamref16_block_1, h0, h1, h5, h6, hi, Sm.rows_len, hre, hw1, hgt, hw3]
      exact hret _ (by simp)
    by_cases hs : 300 < s.length
    · have hs' : (300 : Int) < s.length := by omega
      simp [b_flotsamref16_block_1, h0, h1, h5, h6, hi, Sm.rows_len, hre, hw1, hgt, hw3, hs']
      exact hret _ (by simp)
    have hs' : ¬ (300 : Int) < s.length := by omega
    simp [b_flotsamref16_block_1, h0, h1, h5, h6, hi, Sm.rows_len, hre, hw1, hgt, hw3, hs']
    refine block_inner l i op s w x b c g hi hre' left ((Sm.sizes (l.take i) : Int) + 1) hl0 h1l (by omega) Q _ (fun φ' q => ?_) (fun φ' q0 q1 q6 q5 qle qt => ?_) x.length 0 _ (by omega) (by simp [Ex.sizes]; omega) (by simp [Ex.txts]) (by simp [h0]) (by simp [h1]) (by simp [h6]) (by simp [Ex.sizes]) (by simp)
    · simp
      exact hret _ q
    · obtain ⟨r, hr, hr0, hr1, hr2⟩ := hfe b (by simp [Sm.blocks]) (left - ((Sm.sizes (l.take i) : Int) + 1 + Ex.sizes x)) (by omega) (by omega)
      have hw4 : IntKind.i64.wrap (left - ((Sm.sizes (l.take i) : Int) + 1 + Ex.sizes x)) = left - ((Sm.sizes (l.take i) : Int) + 1 + Ex.sizes x) := wi (by omega) (by omega)
      have hw5 : IntKind.i64.wrap ((Sm.sizes (l.take i) : Int) + 1 + Ex.sizes x + r) = (Sm.sizes (l.take i) : Int) + 1 + Ex.sizes x + r := wi (by omega) (by omega)
      by_cases hgt2 : left < (Sm.sizes (l.take i) : Int) + 1 + Ex.sizes x + r
      · simp [r_flotsamref16_block_0, q0, q1, q5, q6, hi, Sm.rows_len, hre, hw4, hr, hw5, hgt2, hw3, lt_flotsamref16_block]
        exact hret _ (by simp)
      obtain ⟨hr3, hr4⟩ := hr2 (by omega)
      obtain ⟨t, ht1, ht0, ht2, ht3⟩ := hfe c (by simp [Sm.blocks]) (left - ((Sm.sizes (l.take i) : Int) + 1 + Ex.sizes x + r)) (by omega) (by omega)
      have hw6 : IntKind.i64.wrap (left - ((Sm.sizes (l.take i) : Int) + 1 + Ex.sizes x + r)) = left - ((Sm.sizes (l.take i) : Int) + 1 + Ex.sizes x + r) := wi (by omega) (by omega)
      have hw7 : IntKind.i64.wrap ((Sm.sizes (l.take i) : Int) + 1 + Ex.sizes x + r + t) = (Sm.sizes (l.take i) : Int) + 1 + Ex.sizes x + r + t := wi (by omega) (by omega)
      by_cases hgt3 : left < (Sm.sizes (l.take i) : Int) + 1 + Ex.sizes x + r + t
      · simp [r_flotsamref16_block_0, q0, q1, q5, q6, hi, Sm.rows_len, hre, hw4, hr, hw5, hgt2, hw3, lt_flotsamref16_block, hw6, ht1, hw7, hgt3]
        exact hret _ (by simp)
      obtain ⟨ht4, ht5⟩ := ht3 (by omega)
      have hsz : (Sm.sizes (l.take i) : Int) + 1 + Ex.sizes x + r + t = (Sm.sizes (l.take (i + 1)) : Int) := by
        rw [hnext, _root_.Go.AM.Spec.sizes_append]; simp only [Sm.sizes, Sm.size]; omega
      simp [r_flotsamref16_block_0, q0, q1, q5, q6, hi, Sm.rows_len, hre, hw4, hr, hw5, hgt2, hw3, lt_flotsamref16_block, hw6, ht1, hw7, hgt3, r_flotsamref16_block_1, hw]
      refine ih (i + 1) _ (by omega) (by omega) (by rw [hnext, Sm.txts_append]; exact ⟨ht, ⟨by omega, qt, hr4, ht5⟩, trivial⟩) (by simp [q0]) (by simp [q1]) (by simp [hsz]) (by simp)

theorem block_step (l : List Sm) (hf : ∀ e ∈ l, ∀ b ∈ e.blocks, SzB b) : SzB l := by
  intro left hl0 hl1
  rw [eval_M rfl rfl t_flotsamref16_block rfl]
  simp [c_flotsamref16_block]
  refine sblock_loop l left hl0 hl1 hf (fun o => ∃ r : Int, o = some (.int .i64 r, []) ∧ -1000 ≤ r ∧ r ≤ 1001 ∧ (r ≤ left → r = Sm.sizes l ∧ Sm.txts l)) _ (fun φ' g => ?_) (fun φ' g hle ht => ?_) l.length 0 _ (by omega) (by simp [Sm.sizes]) (by simp [Sm.txts]) (by simp) (by simp) (by simp [Sm.sizes]) (by simp)
  · exact ⟨left + 1, by simp [g], by omega, by omega, fun h => by omega⟩
  · exact ⟨Sm.sizes l, by simp [r_flotsamref16_block_2, g], by omega, by omega, fun h => ⟨rfl, ht⟩⟩

theorem block_ok : ∀ (n : Nat) (l : List Sm), Sm.sizes l ≤ n → SzB l := by
  intro n
  induction n with
  | zero =>
    intro l hl
    have h0 : l = [] := by
      have := Sm.sizes_ge l
      exact List.length_eq_zero_iff.1 (by omega)
    subst h0
    exact block_step [] (by simp)
  | succ n ih =>
    intro l hl
    refine block_step l fun e he b hb => ih b ?_
    have h1 := Sm.sizes_mem he
    obtain ⟨op, w, m, ee, b1, b2, g⟩ := e
    simp only [Sm.size] at h1
    simp only [Sm.blocks, List.mem_cons, List.not_mem_nil, or_false] at hb
    rcases hb with rfl | rfl <;> omega


theorem Size_loop0 (p : Pg) (left : Int) (hl0 : 0 ≤ left) (h1l : left ≤ 1000) (hpl : (p.procs.length : Int) ≤ left) (hol : (p.oracles.length : Int) ≤ left) (Q : Option (V × Heap) → Prop) (k : List Item)
    (hret : ∀ φ', Fr.get φ' 4 = .int .i64 (left + 1) → Q (retK k φ' [some p.cells]))
    (hexit : ∀ φ' (n : Int), n = p.procs.length + p.oracles.length + Sm.sizes p.bodies.flatten → n ≤ left → (∀ x ∈ p.procs, x.1.length ≤ 300 ∧ Sm.txts x.2) → Fr.get φ' 1 = .int .i64 left → Fr.get φ' 2 = .ptr 0 0 → Fr.get φ' 5 = .int .i64 n → Q (M (eval tbl noExt) k φ' [some p.cells])) :
    ∀ (j i : Nat) (φ : Fr) (n : Int), i + j = p.procs.length → n = p.procs.length + p.oracles.length + Sm.sizes (p.bodies.take i).flatten → (n ≤ left ∨ i = 0) → (∀ x ∈ p.procs.take i, x.1.length ≤ 300 ∧ Sm.txts x.2) → Fr.get φ 1 = .int .i64 left → Fr.get φ 2 = .ptr 0 0 → Fr.get φ 5 = .int .i64 n → Fr.get φ 6 = .int .i64 i →
      Q (M (eval tbl noExt) (.code l_flotsamref16_Size_0 :: .blk 0 :: k) φ [some p.cells]) := by
  have hbl : p.bodies.length = p.procs.length := by simp [Pg.bodies]
  intro j
  induction j with
  | zero =>
    intro i φ n hj hn hle ht h1 h2 h5 h6
    have hi : ¬ ((i : Int) < p.procs.length) := by omega
    rw [List.take_of_length_le (by omega)] at hn
    rw [List.take_of_length_le (by omega)] at ht
    have hle' : n ≤ left := by
      rcases hle with h | h
      · exact h
      · have h0 : p.procs = [] := List.length_eq_zero_iff.1 (by omega)
        have h00 : p.bodies = [] := by rw [Pg.bodies, h0]; rfl
        rw [h0, h00] at hn
        simp only [List.length_nil, List.flatten_nil, Sm.sizes] at hn
        omega
    rw [l_flotsamref16_Size_0, M_loop, ← l_flotsamref16_Size_0]
    have hexit' := hexit
    simp only [Pg.cells] at hexit' ⊢
    simp [b_flotsamref16_Size_0, h1, h2, h5, h6, hi, Pg.pcells_len]
    exact hexit' _ n hn hle' ht (by simp [h1]) (by simp [h2]) (by simp [h5])
  | succ j ih =>
    intro i φ n hj hn hle ht h1 h2 h5 h6
    have hi : (i : Int) < p.procs.length := by omega
    obtain ⟨e, he, hmem, hd⟩ := at_some (l := p.procs) (i := i) (by omega)
    have hrow := p.prow he
    have hw : IntKind.i64.wrap ((i : Int) + 1) = ((i + 1 : Nat) : Int) := by rw [wi (by omega) (by omega)]; rfl
    have hb : p.bodies[i]? = some e.2 := by rw [Pg.bodies, List.getElem?_map, he]; rfl
    have hn0 : 0 ≤ n ∧ n ≤ 2000 := by
      rcases hle with h | h
      · omega
      · subst h
        simp only [List.take_zero, List.flatten_nil, Sm.sizes] at hn
        omega
    have hn1 : n - left ≤ 1000 := by
      rcases hle with h | h
      · omega
      · subst h
        simp only [List.take_zero, List.flatten_nil, Sm.sizes] at hn
        omega
    obtain ⟨r, hr, hr0, hr1, hr2⟩ := block_ok (Sm.sizes e.2) e.2 (Nat.le_refl _) (left - n) (by omega) (by omega)
    have hw1 : IntKind.i64.wrap (left - n) = left - n := wi (by omega) (by omega)
    have hw2 : IntKind.i64.wrap (n + r) = n + r := wi (by omega) (by omega)
    have hw3 : IntKind.i64.wrap (left + 1) = left + 1 := wi (by omega) (by omega)
    have hnext := take_next hb
    have hnext2 := take_next he
    rw [l_flotsamref16_Size_0, M_loop, ← l_flotsamref16_Size_0]
    have hret' := hret
    simp only [Pg.cells] at hret' ih ⊢
    by_cases hs : 300 < e.1.length
    · have hs' : (300 : Int) < e.1.length := by omega
      simp [b_flotsamref16_Size_0, h1, h2, h5, h6, hi, Pg.pcells_len, hrow, hw1, hr, hw2, hs', hw3, lt_flotsamref16_block]
      exact hret' _ (by simp)
    have hs' : ¬ (300 : Int) < e.1.length := by omega
    by_cases hgt : left < n + r
    · simp [b_flotsamref16_Size_0, h1, h2, h5, h6, hi, Pg.pcells_len, hrow, hw1, hr, hw2, hs', hw3, hgt, lt_flotsamref16_block]
      exact hret' _ (by simp)
    · obtain ⟨hr3, hr4⟩ := hr2 (by omega)
      simp [b_flotsamref16_Size_0, h1, h2, h5, h6, hi, Pg.pcells_len, hrow, hw1, hr, hw2, hs', hw, hgt, lt_flotsamref16_block]
      refine ih (i + 1) _ (n + r) (by omega) ?_ (Or.inl (by omega)) ?_ (by simp [h1]) (by simp [h2]) (by simp) (by simp)
      · rw [hnext, List.flatten_append, Go.AM.Spec.sizes_append]
        simp only [List.flatten_cons, List.flatten_nil, List.append_nil]
        omega
      · rw [hnext2]
        intro x hx
        rcases List.mem_append.1 hx with h | h
        · exact ht x h
        · rw [List.mem_singleton.1 h]
          exact ⟨by omega, hr4⟩

theorem Size_loop1 (p : Pg) (left N : Int) (hl0 : 0 ≤ left) (h1l : left ≤ 1000) (hol : (p.oracles.length : Int) ≤ left) (hN : 0 ≤ N) (Q : Option (V × Heap) → Prop) (k : List Item)
    (hret : ∀ φ', Fr.get φ' 4 = .int .i64 (left + 1) → Q (retK k φ' [some p.cells]))
    (hexit : ∀ φ' (n : Int), n ≤ 10000 → (n ≤ left → n = N + Ex.sizes p.exprs ∧ ∀ x ∈ p.oracles, x.1.length ≤ 300 ∧ x.2.txt) → Fr.get φ' 5 = .int .i64 n → Q (M (eval tbl noExt) k φ' [some p.cells])) :
    ∀ (j i : Nat) (φ : Fr) (n : Int), i + j = p.oracles.length → 0 ≤ n → n ≤ 10000 → (n ≤ left → n = N + Ex.sizes (p.exprs.take i) ∧ ∀ x ∈ p.oracles.take i, x.1.length ≤ 300 ∧ x.2.txt) → Fr.get φ 1 = .int .i64 left → Fr.get φ 2 = .ptr 0 0 → Fr.get φ 5 = .int .i64 n → Fr.get φ 7 = .int .i64 i →
      Q (M (eval tbl noExt) (.code l_flotsamref16_Size_1 :: .blk 2 :: k) φ [some p.cells]) := by
  have hbl : p.exprs.length = p.oracles.length := by simp [Pg.exprs]
  intro j
  induction j with
  | zero =>
    intro i φ n hj hn0 hn hle h1 h2 h5 h7
    have hi : ¬ ((i : Int) < p.oracles.length) := by omega
    rw [List.take_of_length_le (by omega), List.take_of_length_le (by omega)] at hle
    rw [l_flotsamref16_Size_1, M_loop, ← l_flotsamref16_Size_1]
    have hexit' := hexit
    simp only [Pg.cells] at hexit' ⊢
    simp [b_flotsamref16_Size_1, h1, h2, h5, h7, hi, Pg.ocells_len]
    exact hexit' _ n hn hle (by simp [h5])
  | succ j ih =>
    intro i φ n hj hn0 hn hle h1 h2 h5 h7
    have hi : (i : Int) < p.oracles.length := by omega
    have hexit' := hexit
    have hret' := hret
    simp only [Pg.cells] at hret' hexit' ih ⊢
    rw [l_flotsamref16_Size_1, M_loop, ← l_flotsamref16_Size_1]
    by_cases hgt : left < n
    · have hgt' : ¬ n ≤ left := by omega
      simp [b_flotsamref16_Size_1, h1, h2, h5, h7, hi, Pg.ocells_len, hgt']
      exact hexit' _ n hn (fun h => by omega) (by simp [h5])
    obtain ⟨hn1, hn2⟩ := hle (by omega)
    have hgt' : n ≤ left := by omega
    obtain ⟨e, he, hmem, hd⟩ := at_some (l := p.oracles) (i := i) (by omega)
    have hrow := p.orow he
    have hw : IntKind.i64.wrap ((i : Int) + 1) = ((i + 1 : Nat) : Int) := by rw [wi (by omega) (by omega)]; rfl
    have hb : p.exprs[i]? = some e.2 := by rw [Pg.exprs, List.getElem?_map, he]; rfl
    obtain ⟨r, hr, hr0, hr1, hr2⟩ := expr_ok e.2.size e.2 (Nat.le_refl _) (left - n) (by omega) (by omega)
    obtain ⟨c0, c1, c2, c3, hc⟩ := e.2.cells_shape
    rw [hc] at hr hrow
    have hw1 : IntKind.i64.wrap (left - n) = left - n := wi (by omega) (by omega)
    have hw2 : IntKind.i64.wrap (n + r) = n + r := wi (by omega) (by omega)
    have hw3 : IntKind.i64.wrap (left + 1) = left + 1 := wi (by omega) (by omega)
    have hnext := take_next hb
    have hnext2 := take_next he
    by_cases hs : 300 < e.1.length
    · have hs' : (300 : Int) < e.1.length := by omega
      simp [b_flotsamref16_Size_1, h1, h2, h5, h7, hi, Pg.ocells_len, hgt', hrow, hw1, hr, hw2, hs', hw3, lt_flotsamref16_expr]
      exact hret' _ (by simp)
    have hs' : ¬ (300 : Int) < e.1.length := by omega
    simp [b_flotsamref16_Size_1, h1, h2, h5, h7, hi, Pg.ocells_len, hgt', hrow, hw1, hr, hw2, hs', hw, lt_flotsamref16_expr]
    have hr5 : 0 ≤ r := by
      by_cases h : r ≤ left - n
      · have := (hr2 h).1; omega
      · omega
    refine ih (i + 1) _ (n + r) (by omega) (by omega) (by omega) (fun h => ?_) (by simp [h1]) (by simp [h2]) (by simp) (by simp)
    obtain ⟨hr3, hr4⟩ := hr2 (by omega)
    constructor
    · rw [hnext, Ex.sizes_append]
      simp only [Ex.sizes]
      omega
    · rw [hnext2]
      intro x hx
      rcases List.mem_append.1 hx with h | h
      · exact hn2 x h
      · rw [List.mem_singleton.1 h]
        exact ⟨by omega, hr4⟩

theorem Size_eq (p : Pg) (left : Int) (hl0 : 0 ≤ left) (h1l : left ≤ 1000) : ∃ r : Int, eval tbl noExt n_flotsamref16_Size [.agg p.cells, .int .i64 left] [] = some (.int .i64 r, []) ∧ (r ≤ left → (p.size : Int) ≤ left ∧ p.txt) := by
  have hw3 : IntKind.i64.wrap (left + 1) = left + 1 := wi (by omega) (by omega)
  have hmin : min left 1000 = left := by omega
  have hsz := p.size_eq
  rw [eval_M rfl rfl t_flotsamref16_Size rfl]
  by_cases hp : left < p.procs.length
  · refine ⟨left + 1, ?_, fun h => by omega⟩
    simp [c_flotsamref16_Size, Pg.cells, hmin, Pg.pcells_len, hp, hw3]
  by_cases ho : left < p.oracles.length
  · refine ⟨left + 1, ?_, fun h => by omega⟩
    simp [c_flotsamref16_Size, Pg.cells, hmin, Pg.pcells_len, Pg.ocells_len, hp, ho, hw3]
  have hw4 : IntKind.i64.wrap ((p.procs.length : Int) + p.oracles.length) = (p.procs.length : Int) + p.oracles.length := wi (by omega) (by omega)
  simp [c_flotsamref16_Size, Pg.cells, hmin, Pg.pcells_len, Pg.ocells_len, hp, ho, hw3, hw4]
  refine Size_loop0 p left hl0 h1l (by omega) (by omega) (fun o => ∃ r : Int, o = some (.int .i64 r, []) ∧ (r ≤ left → (p.size : Int) ≤ left ∧ p.txt)) _ (fun φ' g => ?_) (fun φ' n hn hle ht g1 g2 g5 => ?_) p.procs.length 0 _ ((p.procs.length : Int) + p.oracles.length) (by omega) (by simp [Sm.sizes]) (Or.inr rfl) (by simp) (by simp) (by simp) (by simp) (by simp)
  · exact ⟨left + 1, by simp [g], fun h => by omega⟩
  · have hn0 : 0 ≤ n := by omega
    obtain ⟨r, hr, hr0, hr1, hr2⟩ := block_ok (Sm.sizes p.main) p.main (Nat.le_refl _) (left - n) (by omega) (by omega)
    have hw5 : IntKind.i64.wrap (left - n) = left - n := wi (by omega) (by omega)
    have hw6 : IntKind.i64.wrap (n + r) = n + r := wi (by omega) (by omega)
    have hr5 : 0 ≤ r := by
      by_cases h : r ≤ left - n
      · have := (hr2 h).1; omega
      · omega
    have fin : ∀ (φ' : Fr) (m : Int), Fr.get φ' 5 = .int .i64 m → (m ≤ left → (p.size : Int) ≤ left ∧ p.txt) → ∃ r : Int, M (eval tbl noExt) [.code r_flotsamref16_Size_0, .fin [.t 4] 0] φ' [some p.cells] = some (.int .i64 r, []) ∧ (r ≤ left → (p.size : Int) ≤ left ∧ p.txt) := by
      intro φ' m h5 h
      exact ⟨m, by simp [r_flotsamref16_Size_0, h5], h⟩
    by_cases hgt : left < n + r
    · have hgt' : ¬ n + r ≤ left := by omega
      simp only [Pg.cells] at fin ⊢
      simp [r_flotsamref16_Size_1, g1, g2, g5, hw5, hr, hw6, hgt', lt_flotsamref16_block]
      refine Size_loop1 p left (left + 1) hl0 h1l (by omega) (by omega) (fun o => ∃ r : Int, o = some (.int .i64 r, []) ∧ (r ≤ left → (p.size : Int) ≤ left ∧ p.txt)) _ (fun φ' g => ?_) (fun φ' m hm0 hm hg5 => ?_) p.oracles.length 0 _ (n + r) (by omega) (by omega) (by omega) (fun h => by omega) (by simp [g1]) (by simp [g2]) (by simp) (by simp)
      · exact ⟨left + 1, by simp [g], fun h => by omega⟩
      · refine ⟨m, by simp [r_flotsamref16_Size_0, hg5], fun h => ?_⟩
        have := (hm h).1
        omega
    · have hgt' : n + r ≤ left := by omega
      obtain ⟨hr3, hr4⟩ := hr2 (by omega)
      obtain ⟨t, ht1, ht0, ht2, ht3⟩ := block_ok (Sm.sizes p.recover) p.recover (Nat.le_refl _) (left - (n + r)) (by omega) (by omega)
      have hw7 : IntKind.i64.wrap (left - (n + r)) = left - (n + r) := wi (by omega) (by omega)
      have hw8 : IntKind.i64.wrap (n + r + t) = n + r + t := wi (by omega) (by omega)
      have ht5 : 0 ≤ t := by
        by_cases h : t ≤ left - (n + r)
        · have := (ht3 h).1; omega
        · omega
      simp only [Pg.cells] at fin ⊢
      simp [r_flotsamref16_Size_1, g1, g2, g5, hw5, hr, hw6, hgt', lt_flotsamref16_block, hw7, ht1, hw8]
      refine Size_loop1 p left (if left < n + r + t then left + 1 else n + r + t) hl0 h1l (by omega) (by split <;> omega) (fun o => ∃ r : Int, o = some (.int .i64 r, []) ∧ (r ≤ left → (p.size : Int) ≤ left ∧ p.txt)) _ (fun φ' g => ?_) (fun φ' m hm0 hm hg5 => ?_) p.oracles.length 0 _ (n + r + t) (by omega) (by omega) (by omega) (fun h => by rw [if_neg (by omega)]; simp [Ex.sizes]) (by simp [g1]) (by simp [g2]) (by simp) (by simp)
      · exact ⟨left + 1, by simp [g], fun h => by omega⟩
      · refine ⟨m, by simp [r_flotsamref16_Size_0, hg5], fun h => ?_⟩
        obtain ⟨hm1, hm2⟩ := hm h
        by_cases hlt : left < n + r + t
        · rw [if_pos hlt] at hm1; omega
        · rw [if_neg hlt] at hm1
          obtain ⟨ht6, ht7⟩ := ht3 (by omega)
          exact ⟨by omega, ht, hr4, ht7, hm2⟩

theorem Small_eq (p : Pg) : ∃ b : Bool, eval tbl noExt n_flotsamlaw16_Small [.agg p.cells] [] = some (.bool b, []) ∧ (b = true → p.size ≤ 600 ∧ p.txt) := by
  obtain ⟨r, hr, h⟩ := Size_eq p 600 (by omega) (by omega)
  rw [eval_M rfl rfl t_flotsamlaw16_Small rfl]
  refine ⟨decide (r ≤ 600), ?_, fun hb => ?_⟩
  · simp only [Pg.cells] at hr ⊢
    simp [c_flotsamlaw16_Small, hr, lt_flotsamref16_Size]
  · obtain ⟨h1, h2⟩ := h (of_decide_eq_true hb)
    exact ⟨by omega, h2⟩

end Go.AM.Spec

namespace Go.AM.Spec
set_option linter.unusedVariables false
set_option linter.unusedSimpArgs false
set_option maxHeartbeats 1000000

/-- The loop over the parts of two expressions. -/
theorem SameExpr_loop (call : CallF) (a0 a1 a2 b0 b1 b2 : V) (l m : List Ex) (hl : l.length ≤ 20000) (hm : m.length = l.length)
    (hf : ∀ e ∈ l, ∀ f, call n_flotsamref16_SameExpr [.agg e.cells, .agg f.cells] [] = some (.bool (e.same f), [])) (R : Option (V × Heap)) (k : List Item)
    (hret : ∀ φ' , Fr.get φ' 4 = .bool false → Ex.sames l m = false → retK k φ' [some [a0, a1, a2, .sl 4 (Ex.rows l)], some [b0, b1, b2, .sl 4 (Ex.rows m)]] = R)
    (hexit : ∀ φ', Ex.sames l m = true → M call k φ' [some [a0, a1, a2, .sl 4 (Ex.rows l)], some [b0, b1, b2, .sl 4 (Ex.rows m)]] = R) :
    ∀ (j i : Nat) (φ : Fr), i + j = l.length → Fr.get φ 2 = .ptr 0 0 → Fr.get φ 3 = .ptr 1 0 → Fr.get φ 5 = .int .i64 i → Ex.sames l m = Ex.sames (l.drop i) (m.drop i) →
      M call (.code l_flotsamref16_SameExpr_0 :: .blk 0 :: k) φ [some [a0, a1, a2, .sl 4 (Ex.rows l)], some [b0, b1, b2, .sl 4 (Ex.rows m)]] = R := by
  intro j
  induction j with
  | zero =>
    intro i φ hj h2 h3 h5 hs
    have hi : ¬ ((i : Int) < l.length) := by omega
    rw [List.drop_of_length_le (by omega), List.drop_of_length_le (by omega)] at hs
    have h := fun φ' => hexit φ' (by rw [hs]; rfl)
    rw [l_flotsamref16_SameExpr_0, M_loop, ← l_flotsamref16_SameExpr_0]
    simp [b_flotsamref16_SameExpr_0, h2, h3, h5, hi, Ex.rows_len, h]
  | succ j ih =>
    intro i φ hj h2 h3 h5 hs
    have hi : (i : Int) < l.length := by omega
    have hi' : (i : Int) < m.length := by omega
    obtain ⟨e, he, hmem, hd⟩ := at_some (l := l) (i := i) (by omega)
    obtain ⟨f, hf', hmem', hd'⟩ := at_some (l := m) (i := i) (by omega)
    have hre := Ex.rows_at he
    have hrf := Ex.rows_at hf'
    have hw : IntKind.i64.wrap ((i : Int) + 1) = ((i + 1 : Nat) : Int) := by rw [w64 (by omega) (by omega)]; rfl
    have hcall := hf e hmem f
    rw [hd, hd', Ex.sames] at hs
    obtain ⟨c0, c1, c2, c3, hc⟩ := e.cells_shape
    obtain ⟨d0, d1, d2, d3, hd0⟩ := f.cells_shape
    rw [hc, hd0] at hcall
    rw [hc] at hre
    rw [hd0] at hrf
    rw [l_flotsamref16_SameExpr_0, M_loop, ← l_flotsamref16_SameExpr_0]
    cases hb : e.same f with
    | false =>
      rw [hb, Bool.false_and] at hs
      rw [hb] at hcall
      simp [b_flotsamref16_SameExpr_0, h2, h3, h5, hi, Ex.rows_len, hi', hre, hrf, hcall]
      exact hret _ (by simp) hs
    | true =>
      rw [hb, Bool.true_and] at hs
      rw [hb] at hcall
      simp [b_flotsamref16_SameExpr_0, h2, h3, h5, hi, Ex.rows_len, hi', hre, hrf, hcall, hw]
      exact ih (i + 1) _ (by omega) (by simp [h2]) (by simp [h3]) (by simp) hs

theorem SameExpr_eq : ∀ (n : Nat) (a b : Ex), a.size ≤ n → n ≤ 20000 → eval tbl noExt n_flotsamref16_SameExpr [.agg a.cells, .agg b.cells] [] = some (.bool (a.same b), []) := by
  intro n
  induction n with
  | zero => intro a b h; cases a; simp only [Ex.size] at h; omega
  | succ n ih =>
    intro a b h hn
    obtain ⟨op, w, s, x⟩ := a
    obtain ⟨op', w', s', x'⟩ := b
    simp only [Ex.size] at h
    have hx := Ex.sizes_ge x
    have hf : ∀ e ∈ x, ∀ f, eval tbl noExt n_flotsamref16_SameExpr [.agg e.cells, .agg f.cells] [] = some (.bool (e.same f), []) := fun e he f => ih e f (by have := Ex.sizes_mem he; omega) (by omega)
    rw [eval_M rfl rfl t_flotsamref16_SameExpr rfl]
    by_cases h1 : op = op'
    · by_cases h2 : w = w'
      · by_cases h3 : s = s'
        · by_cases h4 : x.length = x'.length
          · have h4' : (x.length : Int) = x'.length := by omega
            simp [c_flotsamref16_SameExpr, Ex.cells, h1, h2, h3, h4', Ex.rows_len]
            refine SameExpr_loop _ _ _ _ _ _ _ x x' (by omega) h4.symm hf _ _ (fun φ' g hs => ?_) (fun φ' hs => ?_) x.length 0 _ (by omega) (by simp) (by simp) (by simp) (by simp)
            · simp [g, Ex.same, hs]
            · simp [r_flotsamref16_SameExpr_0, Ex.same, hs]
          · have h4' : ¬ (x.length : Int) = x'.length := by omega
            simp [c_flotsamref16_SameExpr, Ex.cells, h1, h2, h3, h4', Ex.rows_len, Ex.same, Ex.sames_len h4]
        · simp [c_flotsamref16_SameExpr, Ex.cells, h1, h2, h3, Ex.same]
      · simp [c_flotsamref16_SameExpr, Ex.cells, h1, h2, Ex.same]
    · simp [c_flotsamref16_SameExpr, Ex.cells, h1, Ex.same]

theorem SameStmt_loop (call : CallF) (a0 a1 a2 a4 a5 a6 b0 b1 b2 b4 b5 b6 : V) (l m : List Ex) (hl : l.length ≤ 20000) (hm : m.length = l.length)
    (hf : ∀ e ∈ l, ∀ f, call n_flotsamref16_SameExpr [.agg e.cells, .agg f.cells] [] = some (.bool (e.same f), [])) (R : Option (V × Heap)) (k : List Item)
    (hret : ∀ φ' , Fr.get φ' 4 = .bool false → Ex.sames l m = false → retK k φ' [some [a0, a1, a2, .sl 4 (Ex.rows l), a4, a5, a6], some [b0, b1, b2, .sl 4 (Ex.rows m), b4, b5, b6]] = R)
    (hexit : ∀ φ', Fr.get φ' 2 = .ptr 0 0 → Fr.get φ' 3 = .ptr 1 0 → Ex.sames l m = true → M call k φ' [some [a0, a1, a2, .sl 4 (Ex.rows l), a4, a5, a6], some [b0, b1, b2, .sl 4 (Ex.rows m), b4, b5, b6]] = R) :
    ∀ (j i : Nat) (φ : Fr), i + j = l.length → Fr.get φ 2 = .ptr 0 0 → Fr.get φ 3 = .ptr 1 0 → Fr.get φ 5 = .int .i64 i → Ex.sames l m = Ex.sames (l.drop i) (m.drop i) →
      M call (.code l_flotsamref16_SameStmt_0 :: .blk 0 :: k) φ [some [a0, a1, a2, .sl 4 (Ex.rows l), a4, a5, a6], some [b0, b1, b2, .sl 4 (Ex.rows m), b4, b5, b6]] = R := by
  intro j
  induction j with
  | zero =>
    intro i φ hj h2 h3 h5 hs
    have hi : ¬ ((i : Int) < l.length) := by omega
    rw [List.drop_of_length_le (by omega), List.drop_of_length_le (by omega)] at hs
    rw [l_flotsamref16_SameStmt_0, M_loop, ← l_flotsamref16_SameStmt_0]
    simp [b_flotsamref16_SameStmt_0, h2, h3, h5, hi, Ex.rows_len]
    exact hexit _ (by simp [h2]) (by simp [h3]) (by rw [hs]; rfl)
  | succ j ih =>
    intro i φ hj h2 h3 h5 hs
    have hi : (i : Int) < l.length := by omega
    have hi' : (i : Int) < m.length := by omega
    obtain ⟨e, he, hmem, hd⟩ := at_some (l := l) (i := i) (by omega)
    obtain ⟨f, hf', hmem', hd'⟩ := at_some (l := m) (i := i) (by omega)
    have hre := Ex.rows_at he
    have hrf := Ex.rows_at hf'
    have hw : IntKind.i64.wrap ((i : Int) + 1) = ((i + 1 : Nat) : Int) := by rw [w64 (by omega) (by omega)]; rfl
    have hcall := hf e hmem f
    rw [hd, hd', Ex.sames] at hs
    obtain ⟨c0, c1, c2, c3, hc⟩ := e.cells_shape
    obtain ⟨d0, d1, d2, d3, hd0⟩ := f.cells_shape
    rw [hc, hd0] at hcall
    rw [hc] at hre
    rw [hd0] at hrf
    rw [l_flotsamref16_SameStmt_0, M_loop, ← l_flotsamref16_SameStmt_0]
    cases hb : e.same f with
    | false =>
      rw [hb, Bool.false_and] at hs
      rw [hb] at hcall
      simp [b_flotsamref16_SameStmt_0, h2, h3, h5, hi, Ex.rows_len, hi', hre, hrf, hcall]
      exact hret _ (by simp) hs
    | true =>
      rw [hb, Bool.true_and] at hs
      rw [hb] at hcall
      simp [b_flotsamref16_SameStmt_0, h2, h3, h5, hi, Ex.rows_len, hi', hre, hrf, hcall, hw]
      exact ih (i + 1) _ (by omega) (by simp [h2]) (by simp [h3]) (by simp) hs

theorem SameStmts_loop (call : CallF) (l m : List Sm) (hl : l.length ≤ 20000) (hm : m.length = l.length)
    (hf : ∀ e ∈ l, ∀ f, call n_flotsamref16_SameStmt [.agg e.cells, .agg f.cells] [] = some (.bool (e.same f), [])) (R : Option (V × Heap)) (k : List Item)
    (hret : ∀ φ' , Fr.get φ' 4 = .bool false → Sm.sames l m = false → retK k φ' [] = R)
    (hexit : ∀ φ', Sm.sames l m = true → M call k φ' [] = R) :
    ∀ (j i : Nat) (φ : Fr), i + j = l.length → Fr.get φ 0 = .sl 7 (Sm.rows l) → Fr.get φ 1 = .sl 7 (Sm.rows m) → Fr.get φ 5 = .int .i64 i → Sm.sames l m = Sm.sames (l.drop i) (m.drop i) →
      M call (.code l_flotsamref16_SameStmts_0 :: .blk 0 :: k) φ [] = R := by
  intro j
  induction j with
  | zero =>
    intro i φ hj h2 h3 h5 hs
    have hi : ¬ ((i : Int) < l.length) := by omega
    rw [List.drop_of_length_le (by omega), List.drop_of_length_le (by omega)] at hs
    rw [l_flotsamref16_SameStmts_0, M_loop, ← l_flotsamref16_SameStmts_0]
    simp [b_flotsamref16_SameStmts_0, h2, h3, h5, hi, Sm.rows_len]
    exact hexit _ (by rw [hs]; rfl)
  | succ j ih =>
    intro i φ hj h2 h3 h5 hs
    have hi : (i : Int) < l.length := by omega
    have hi' : (i : Int) < m.length := by omega
    obtain ⟨e, he, hmem, hd⟩ := at_some (l := l) (i := i) (by omega)
    obtain ⟨f, hf', hmem', hd'⟩ := at_some (l := m) (i := i) (by omega)
    have hre := Sm.rows_at he
    have hrf := Sm.rows_at hf'
    have hw : IntKind.i64.wrap ((i : Int) + 1) = ((i + 1 : Nat) : Int) := by rw [w64 (by omega) (by omega)]; rfl
    have hcall := hf e hmem f
    rw [hd, hd', Sm.sames] at hs
    obtain ⟨c0, c1, c2, c3, c4, c5, c6, hc⟩ := e.cells_shape
    obtain ⟨d0, d1, d2, d3, d4, d5, d6, hd0⟩ := f.cells_shape
    rw [hc, hd0] at hcall
    rw [hc] at hre
    rw [hd0] at hrf
    rw [l_flotsamref16_SameStmts_0, M_loop, ← l_flotsamref16_SameStmts_0]
    cases hb : e.same f with
    | false =>
      rw [hb, Bool.false_and] at hs
      rw [hb] at hcall
      simp [b_flotsamref16_SameStmts_0, h2, h3, h5, hi, Sm.rows_len, hi', hre, hrf, hcall]
      exact hret _ (by simp) hs
    | true =>
      rw [hb, Bool.true_and] at hs
      rw [hb] at hcall
      simp [b_flotsamref16_SameStmts_0, h2, h3, h5, hi, Sm.rows_len, hi', hre, hrf, hcall, hw]
      exact ih (i + 1) _ (by omega) (by simp [h2]) (by simp [h3]) (by simp) hs

theorem SameStmts_step (l m : List Sm) (hl : l.length ≤ 20000)
    (hf : ∀ e ∈ l, ∀ f, eval tbl noExt n_flotsamref16_SameStmt [.agg e.cells, .agg f.cells] [] = some (.bool (e.same f), [])) :
    eval tbl noExt n_flotsamref16_SameStmts [.sl 7 (Sm.rows l), .sl 7 (Sm.rows m)] [] = some (.bool (Sm.sames l m), []) := by
  rw [eval_M rfl rfl t_flotsamref16_SameStmts rfl]
  by_cases h4 : l.length = m.length
  · have h4' : (l.length : Int) = m.length := by omega
    simp [c_flotsamref16_SameStmts, h4', Sm.rows_len]
    refine SameStmts_loop _ l m (by omega) h4.symm hf _ _ (fun φ' g hs => ?_) (fun φ' hs => ?_) l.length 0 _ (by omega) (by simp) (by simp) (by simp) (by simp)
    · simp [g, hs]
    · simp [r_flotsamref16_SameStmts_0, hs]
  · have h4' : ¬ (l.length : Int) = m.length := by omega
    simp [c_flotsamref16_SameStmts, h4', Sm.rows_len, Sm.sames_len h4]

theorem SameStmt_eq : ∀ (n : Nat) (a b : Sm), a.size ≤ n → n ≤ 20000 → eval tbl noExt n_flotsamref16_SameStmt [.agg a.cells, .agg b.cells] [] = some (.bool (a.same b), []) := by
  intro n
  induction n with
  | zero => intro a b h; cases a; simp only [Sm.size] at h; omega
  | succ n ih =>
    intro a b h hn
    obtain ⟨op, s, w, x, y, z, g⟩ := a
    obtain ⟨op', s', w', x', y', z', g'⟩ := b
    simp only [Sm.size] at h
    have hx := Ex.sizes_ge x
    have hy := Sm.sizes_ge y
    have hz := Sm.sizes_ge z
    have hf : ∀ e ∈ x, ∀ f, eval tbl noExt n_flotsamref16_SameExpr [.agg e.cells, .agg f.cells] [] = some (.bool (e.same f), []) := fun e he f => SameExpr_eq 20000 e f (by have := Ex.sizes_mem he; omega) (by omega)
    have e1 := SameStmts_step y y' (by omega) (fun e he f => ih e f (by have := Sm.sizes_mem he; omega) (by omega))
    have e2 := SameStmts_step z z' (by omega) (fun e he f => ih e f (by have := Sm.sizes_mem he; omega) (by omega))
    rw [eval_M rfl rfl t_flotsamref16_SameStmt rfl]
    by_cases h1 : op = op'
    · by_cases h2 : s = s'
      · by_cases h3 : w = w'
        · by_cases h5 : g = g'
          · by_cases h4 : x.length = x'.length
            · have h4' : (x.length : Int) = x'.length := by omega
              simp [c_flotsamref16_SameStmt, Sm.cells, h1, h2, h3, h4', h5, Ex.rows_len]
              refine SameStmt_loop _ _ _ _ _ _ _ _ _ _ _ _ _ x x' (by omega) h4.symm hf _ _ (fun φ' q hs => ?_) (fun φ' q2 q3 hs => ?_) x.length 0 _ (by omega) (by simp) (by simp) (by simp) (by simp)
              · simp [q, Sm.same, hs]
              · cases hv : Sm.sames y y' <;> simp [r_flotsamref16_SameStmt_0, Sm.same, hs, q2, q3, e1, e2, hv]
            · have h4' : ¬ (x.length : Int) = x'.length := by omega
              simp [c_flotsamref16_SameStmt, Sm.cells, h1, h2, h3, h4', h5, Ex.rows_len, Sm.same, Ex.sames_len h4]
          · simp [c_flotsamref16_SameStmt, Sm.cells, h1, h2, h3, h5, Sm.same]
        · simp [c_flotsamref16_SameStmt, Sm.cells, h1, h2, h3, Sm.same]
      · simp [c_flotsamref16_SameStmt, Sm.cells, h1, h2, Sm.same]
    · simp [c_flotsamref16_SameStmt, Sm.cells, h1, Sm.same]

theorem SameStmts_eq (l m : List Sm) (hl : l.length ≤ 20000) (he : ∀ e ∈ l, e.size ≤ 20000) :
    eval tbl noExt n_flotsamref16_SameStmts [.sl 7 (Sm.rows l), .sl 7 (Sm.rows m)] [] = some (.bool (Sm.sames l m), []) :=
  SameStmts_step l m hl fun e h f => SameStmt_eq 20000 e f (he e h) (Nat.le_refl _)


/-! The document's lists. -/
end Go.AM.Spec

namespace Go.AM.Spec
set_option linter.unusedVariables false
set_option linter.unusedSimpArgs false

mutual
def Ex.fit : Ex → Prop
  | .mk op n s x => Fit op ∧ Fit n ∧ Len s.length ∧ Len x.length ∧ Ex.fits x
def Ex.fits : List Ex → Prop
  | [] => True
  | e :: l => e.fit ∧ Ex.fits l
end
mutual
def Sm.fit : Sm → Prop
  | .mk op s n e b c _ => Fit op ∧ Len s.length ∧ Fit n ∧ (Len e.length ∧ Ex.fits e) ∧ (Len b.length ∧ Sm.fits b) ∧ (Len c.length ∧ Sm.fits c)
def Sm.fits : List Sm → Prop
  | [] => True
  | e :: l => e.fit ∧ Sm.fits l
end
structure Pg.fit (p : Pg) : Prop where
  pl : Len p.procs.length
  ps : ∀ x ∈ p.procs, Len x.1.length ∧ Len x.2.length ∧ Sm.fits x.2
  ml : Len p.main.length
  ms : Sm.fits p.main
  rl : Len p.recover.length
  rs : Sm.fits p.recover
  ol : Len p.oracles.length
  os : ∀ x ∈ p.oracles, Len x.1.length ∧ x.2.fit

theorem Ex.fits_mem {l : List Ex} : Ex.fits l ↔ ∀ e ∈ l, e.fit := by
  induction l with
  | nil => simp [Ex.fits]
  | cons e l ih => simp [Ex.fits, ih]
theorem Sm.fits_mem {l : List Sm} : Sm.fits l ↔ ∀ e ∈ l, e.fit := by
  induction l with
  | nil => simp [Sm.fits]
  | cons e l ih => simp [Sm.fits, ih]

section
variable {P : Program}

theorem ex_list {rows : List (List V)} (h : ∀ r ∈ rows, ∃ e : Ex, r = e.cells ∧ e.fit) : ∃ l : List Ex, rows = Ex.rows l ∧ Ex.fits l ∧ l.length = rows.length := by
  induction rows with
  | nil => exact ⟨[], rfl, trivial, rfl⟩
  | cons r rows ih =>
    obtain ⟨e, rfl, he⟩ := h r (by simp)
    obtain ⟨l, rfl, hl, hn⟩ := ih (fun r hr => h r (by simp [hr]))
    exact ⟨e :: l, rfl, ⟨he, hl⟩, by simp [hn]⟩
theorem sm_list {rows : List (List V)} (h : ∀ r ∈ rows, ∃ e : Sm, r = e.cells ∧ e.fit) : ∃ l : List Sm, rows = Sm.rows l ∧ Sm.fits l ∧ l.length = rows.length := by
  induction rows with
  | nil => exact ⟨[], rfl, trivial, rfl⟩
  | cons r rows ih =>
    obtain ⟨e, rfl, he⟩ := h r (by simp)
    obtain ⟨l, rfl, hl, hn⟩ := ih (fun r hr => h r (by simp [hr]))
    exact ⟨e :: l, rfl, ⟨he, hl⟩, by simp [hn]⟩

/-- The types of programs, by number. -/
structure TreeTys (P : Program) (tG tPs tSs tOs tP tO tS tEs tE tI tN tB tT : TypeId) : Prop where
  g : ∃ fs, P.underlying tG = some (.struct fs) ∧ fs.toList.map (·.type) = [tPs, tSs, tSs, tOs]
  ps : P.underlying tPs = some (.slice tP)
  ss : P.underlying tSs = some (.slice tS)
  os : P.underlying tOs = some (.slice tO)
  es : P.underlying tEs = some (.slice tE)
  p : ∃ fs, P.underlying tP = some (.struct fs) ∧ fs.toList.map (·.type) = [tT, tSs]
  o : ∃ fs, P.underlying tO = some (.struct fs) ∧ fs.toList.map (·.type) = [tT, tE]
  s : ∃ fs, P.underlying tS = some (.struct fs) ∧ fs.toList.map (·.type) = [tI, tT, tN, tEs, tSs, tSs, tB]
  e : ∃ fs, P.underlying tE = some (.struct fs) ∧ fs.toList.map (·.type) = [tI, tN, tT, tEs]
  i : P.underlying tI = some (.int .i64)
  n : P.underlying tN = some (.int .i64)
  b : P.underlying tB = some .bool
  t : P.underlying tT = some .string
  cp : P.cellsOf tP = 2
  cs : P.cellsOf tS = 7
  co : P.cellsOf tO = 5
  ce : P.cellsOf tE = 4

variable {tG tPs tSs tOs tP tO tS tEs tE tI tN tB tT : TypeId} (T : TreeTys P tG tPs tSs tOs tP tO tS tEs tE tI tN tB tT)
include T

/-- An expression's cells; a list of expressions. -/
theorem ex_of {t : TypeId} {vs : List V} (h : Ty P t vs) : (t = tE → ∃ e : Ex, vs = e.cells ∧ e.fit) ∧ (t = tEs → ∃ l : List Ex, vs = [.sl 4 (Ex.rows l)] ∧ Len l.length ∧ Ex.fits l) := by
  induction h with
  | bool h b =>
    obtain ⟨fs, hu, _⟩ := T.e
    exact ⟨fun ht => (by subst ht; rw [hu] at h; cases h), fun ht => (by subst ht; rw [T.es] at h; cases h)⟩
  | int h n hw =>
    obtain ⟨fs, hu, _⟩ := T.e
    exact ⟨fun ht => (by subst ht; rw [hu] at h; cases h), fun ht => (by subst ht; rw [T.es] at h; cases h)⟩
  | str h s hs =>
    obtain ⟨fs, hu, _⟩ := T.e
    exact ⟨fun ht => (by subst ht; rw [hu] at h; cases h), fun ht => (by subst ht; rw [T.es] at h; cases h)⟩
  | sl h rows hl hr ih =>
    obtain ⟨fs, hu, _⟩ := T.e
    refine ⟨fun ht => (by subst ht; rw [hu] at h; cases h), fun ht => ?_⟩
    subst ht
    rw [T.es] at h
    cases h
    obtain ⟨l, rfl, hf, hn⟩ := ex_list (fun r hr => (ih r hr).1 rfl)
    exact ⟨l, by rw [T.ce], by rw [hn]; exact hl, hf⟩
  | @struct t' gs h parts hl hp ih =>
    obtain ⟨fs, hu, hfs⟩ := T.e
    refine ⟨fun ht => ?_, fun ht => (by subst ht; rw [T.es] at h; cases h)⟩
    subst ht
    obtain rfl : fs = gs := by
      have := hu.symm.trans h
      simpa using this
    have hL := TyL_of (by rw [hl, Array.length_toList]) (fun j f p h1 h2 => hp j f p (by rw [← Array.getElem?_toList]; exact h1) h2)
    rw [hfs] at hL
    obtain ⟨p0, p1, p2, p3, rfl, h0, h1, h2, h3⟩ := TyL_4 hL
    obtain ⟨op, rfl, w0⟩ := Ty_int_of h0 T.i
    obtain ⟨n, rfl, w1⟩ := Ty_int_of h1 T.n
    obtain ⟨s, rfl, w2⟩ := Ty_str_of h2 T.t
    have hf3 : ∃ f : Field, fs[3]? = some f ∧ f.type = tEs := by
      have : (fs.toList.map (·.type))[3]? = some tEs := by rw [hfs]; rfl
      rw [List.getElem?_map, Option.map_eq_some_iff] at this
      obtain ⟨f, hf, hf'⟩ := this
      exact ⟨f, by rw [← Array.getElem?_toList]; exact hf, hf'⟩
    obtain ⟨f, hf, hft⟩ := hf3
    obtain ⟨l, rfl, hll, hlf⟩ := (ih 3 f p3 hf rfl).2 hft
    exact ⟨.mk op n s l, rfl, w0, w1, w2, hll, hlf⟩
  | arr h parts hl hp ih =>
    obtain ⟨fs, hu, _⟩ := T.e
    exact ⟨fun ht => (by subst ht; rw [hu] at h; cases h), fun ht => (by subst ht; rw [T.es] at h; cases h)⟩

/-- A statement's cells; a list of statements. -/
theorem sm_of {t : TypeId} {vs : List V} (h : Ty P t vs) : (t = tS → ∃ e : Sm, vs = e.cells ∧ e.fit) ∧ (t = tSs → ∃ l : List Sm, vs = [.sl 7 (Sm.rows l)] ∧ Len l.length ∧ Sm.fits l) := by
  induction h with
  | bool h b =>
    obtain ⟨fs, hu, _⟩ := T.s
    exact ⟨fun ht => (by subst ht; rw [hu] at h; cases h), fun ht => (by subst ht; rw [T.ss] at h; cases h)⟩
  | int h n hw =>
    obtain ⟨fs, hu, _⟩ := T.s
    exact ⟨fun ht => (by subst ht; rw [hu] at h; cases h), fun ht => (by subst ht; rw [T.ss] at h; cases h)⟩
  | str h s hs =>
    obtain ⟨fs, hu, _⟩ := T.s
    exact ⟨fun ht => (by subst ht; rw [hu] at h; cases h), fun ht => (by subst ht; rw [T.ss] at h; cases h)⟩
  | sl h rows hl hr ih =>
    obtain ⟨fs, hu, _⟩ := T.s
    refine ⟨fun ht => (by subst ht; rw [hu] at h; cases h), fun ht => ?_⟩
    subst ht
    rw [T.ss] at h
    cases h
    obtain ⟨l, rfl, hf, hn⟩ := sm_list (fun r hr => (ih r hr).1 rfl)
    exact ⟨l, by rw [T.cs], by rw [hn]; exact hl, hf⟩
  | @struct t' gs h parts hl hp ih =>
    obtain ⟨fs, hu, hfs⟩ := T.s
    refine ⟨fun ht => ?_, fun ht => (by subst ht; rw [T.ss] at h; cases h)⟩
    subst ht
    obtain rfl : fs = gs := by
      have := hu.symm.trans h
      simpa using this
    have hL := TyL_of (by rw [hl, Array.length_toList]) (fun j f p h1 h2 => hp j f p (by rw [← Array.getElem?_toList]; exact h1) h2)
    rw [hfs] at hL
    obtain ⟨p0, p1, p2, p3, p4, p5, p6, rfl, h0, h1, h2, h3, h4, h5, h6⟩ := TyL_7 hL
    obtain ⟨op, rfl, w0⟩ := Ty_int_of h0 T.i
    obtain ⟨s, rfl, w1⟩ := Ty_str_of h1 T.t
    obtain ⟨n, rfl, w2⟩ := Ty_int_of h2 T.n
    obtain ⟨e, rfl, w3⟩ := (ex_of T h3).2 rfl
    obtain ⟨k, rfl⟩ := Ty_bool_of h6 T.b
    have hf : ∀ i, fs.toList.map (·.type) = [tI, tT, tN, tEs, tSs, tSs, tB] → i = 4 ∨ i = 5 → ∃ f : Field, fs[i]? = some f ∧ f.type = tSs := by
      intro i hfs hi
      have : (fs.toList.map (·.type))[i]? = some tSs := by rw [hfs]; rcases hi with rfl | rfl <;> rfl
      rw [List.getElem?_map, Option.map_eq_some_iff] at this
      obtain ⟨f, hf, hf'⟩ := this
      exact ⟨f, by rw [← Array.getElem?_toList]; exact hf, hf'⟩
    obtain ⟨f4, hf4, ht4⟩ := hf 4 hfs (.inl rfl)
    obtain ⟨f5, hf5, ht5⟩ := hf 5 hfs (.inr rfl)
    obtain ⟨b, rfl, w4⟩ := (ih 4 f4 p4 hf4 rfl).2 ht4
    obtain ⟨c, rfl, w5⟩ := (ih 5 f5 p5 hf5 rfl).2 ht5
    exact ⟨.mk op s n e b c k, rfl, w0, w1, w2, w3, w4, w5⟩
  | arr h parts hl hp ih =>
    obtain ⟨fs, hu, _⟩ := T.s
    exact ⟨fun ht => (by subst ht; rw [hu] at h; cases h), fun ht => (by subst ht; rw [T.ss] at h; cases h)⟩

theorem pr_list {prows : List (List V)} (hpr : ∀ r ∈ prows, Ty P tP r) : ∃ ps : List (List UInt8 × List Sm), prows = ps.map (fun x => [.str x.1, .sl 7 (Sm.rows x.2)]) ∧ ∀ x ∈ ps, Len x.1.length ∧ Len x.2.length ∧ Sm.fits x.2 := by
    induction prows with
    | nil => exact ⟨[], rfl, by simp⟩
    | cons x l ih =>
      obtain ⟨ps, rfl, hps⟩ := ih (fun r hr => hpr r (by simp [hr]))
      obtain ⟨gs, gu, ggs⟩ := T.p
      have gi := Ty_inv (hpr x (by simp))
      rw [gu] at gi
      obtain ⟨parts, rfl, hL⟩ := gi
      rw [ggs] at hL
      obtain ⟨q0, q1, rfl, k0, k1⟩ := TyL_2 hL
      obtain ⟨s, rfl, w0⟩ := Ty_str_of k0 T.t
      obtain ⟨b, rfl, w1, w2⟩ := (sm_of T k1).2 rfl
      refine ⟨(s, b) :: ps, rfl, ?_⟩
      intro x hx
      rcases List.mem_cons.1 hx with rfl | hx
      · exact ⟨w0, w1, w2⟩
      · exact hps x hx

theorem or_list {orows : List (List V)} (hor : ∀ r ∈ orows, Ty P tO r) : ∃ os : List (List UInt8 × Ex), orows = os.map (fun x => .str x.1 :: x.2.cells) ∧ ∀ x ∈ os, Len x.1.length ∧ x.2.fit := by
    induction orows with
    | nil => exact ⟨[], rfl, by simp⟩
    | cons x l ih =>
      obtain ⟨os, rfl, hos⟩ := ih (fun r hr => hor r (by simp [hr]))
      obtain ⟨gs, gu, ggs⟩ := T.o
      have gi := Ty_inv (hor x (by simp))
      rw [gu] at gi
      obtain ⟨parts, rfl, hL⟩ := gi
      rw [ggs] at hL
      obtain ⟨q0, q1, rfl, k0, k1⟩ := TyL_2 hL
      obtain ⟨s, rfl, w0⟩ := Ty_str_of k0 T.t
      obtain ⟨e, rfl, w1⟩ := (ex_of T k1).1 rfl
      refine ⟨(s, e) :: os, by simp, ?_⟩
      intro x hx
      rcases List.mem_cons.1 hx with rfl | hx
      · exact ⟨w0, w1⟩
      · exact hos x hx

theorem pg_of {vs : List V} (h : Ty P tG vs) : ∃ p : Pg, vs = p.cells ∧ p.fit := by
  obtain ⟨fs, hu, hfs⟩ := T.g
  have hi := Ty_inv h
  rw [hu] at hi
  obtain ⟨parts, rfl, hL⟩ := hi
  rw [hfs] at hL
  obtain ⟨p0, p1, p2, p3, rfl, h0, h1, h2, h3⟩ := TyL_4 hL
  obtain ⟨m, rfl, m1, m2⟩ := (sm_of T h1).2 rfl
  obtain ⟨r, rfl, r1, r2⟩ := (sm_of T h2).2 rfl
  obtain ⟨prows, rfl, pl, hpr⟩ := Ty_sl_of h0 T.ps
  obtain ⟨orows, rfl, ol, hor⟩ := Ty_sl_of h3 T.os
  have hps := pr_list T hpr
  have hos := or_list T hor
  obtain ⟨ps, rfl, hps⟩ := hps
  obtain ⟨os, rfl, hos⟩ := hos
  refine ⟨⟨ps, m, r, os⟩, ?_, ⟨by simpa using pl, hps, m1, m2, r1, r2, by simpa using ol, hos⟩⟩
  rw [T.cp, T.co]
  simp [Pg.cells, Pg.pcells, Pg.ocells]

end
end Go.AM.Spec

namespace Go.AM.Spec
set_option linter.unusedVariables false
set_option linter.unusedSimpArgs false
set_option maxHeartbeats 1000000
set_option maxRecDepth 10000

theorem knows16 : eval tbl noExt n_flotsamlaw16_knows [] [] = some (.bool true, []) := (eval_iff _ _ _ _ _ _).2 ⟨200, by kernel_rfl⟩

/-- The blocks of the first procedures. -/
def Pg.firsts (p : Pg) (i : Nat) : List Sm := ((p.procs.take i).map (·.2)).flatten
theorem Pg.firsts_next (p : Pg) {i : Nat} {x : List UInt8 × List Sm} (h : p.procs[i]? = some x) : p.firsts (i + 1) = p.firsts i ++ x.2 := by
  simp [Pg.firsts, List.take_add_one, h]
theorem Pg.firsts_all (p : Pg) : p.flats = Sm.flats (p.firsts p.procs.length) ++ (Sm.flats p.main ++ Sm.flats p.recover) := by
  simp [Pg.flats, Pg.parts, Pg.firsts, Sm.flats_append]
theorem Pg.firsts_size (p : Pg) (i : Nat) : Sm.sizes (p.firsts i) + Sm.sizes p.main + Sm.sizes p.recover ≤ p.size := by
  have h : Sm.sizes (p.firsts i) ≤ Sm.sizes p.bodies.flatten := by
    have e : p.bodies.flatten = p.firsts i ++ ((p.procs.drop i).map (·.2)).flatten := by
      rw [Pg.firsts, ← List.flatten_append, ← List.map_append, List.take_append_drop]; rfl
    rw [e, sizes_append]; omega
  have := p.size_eq
  omega

/-- What the counts come to behind the first procedures. -/
def Pg.cnt (p : Pg) (i : Nat) : Nat := (Sm.flats p.main).length + (Sm.flats p.recover).length + (Sm.flats (p.firsts i)).length
def Pg.thr (p : Pg) (op : Int) (i : Nat) : Bool := hasOp op p.main || hasOp op p.recover || hasOp op (p.firsts i)

theorem procs_loop (p : Pg) (hp : p.size ≤ 600) (op kk : Int) (F : List V) (Q : Option (V × Heap) → Prop) (k : List Item)
    (hexit : ∀ φ', Fr.get φ' 1 = .int .i64 kk → Fr.get φ' 2 = .int .i64 op → Fr.get φ' 3 = .ptr 0 0 → Fr.get φ' 7 = .sl 7 (Sm.rows p.flats) → Fr.get φ' 8 = .int .i64 p.flats.length → Fr.get φ' 9 = .bool (p.flats.any fun e => decide (e.op = op)) → Q (M (eval tbl noExt) k φ' [some p.cells])) :
    ∀ (j i : Nat) (φ : Fr), i + j = p.procs.length → Fr.get φ 1 = .int .i64 kk → Fr.get φ 2 = .int .i64 op → Fr.get φ 3 = .ptr 0 0 → Fr.get φ 7 = .sl 7 (Sm.rows p.flats) → Fr.get φ 8 = .int .i64 (p.cnt i) → Fr.get φ 9 = .bool (p.thr op i) → Fr.get φ 10 = .int .i64 i →
      Q (M (eval tbl noExt) (.code l_flotsamlaw16_TreeApart_w_0 :: .blk 0 :: k) φ [some p.cells]) := by
  have hpc : p.cells = [.sl 2 p.pcells, .sl 7 (Sm.rows p.main), .sl 7 (Sm.rows p.recover), .sl 5 p.ocells] := rfl
  have hl := p.pcells_len
  intro j
  induction j with
  | zero =>
    intro i φ hj h1 h2 h3 h7 h8 h9 h10
    have hi : ¬ ((i : Int) < p.procs.length) := by omega
    have hii : i = p.procs.length := by omega
    have e8 : (p.cnt i : Int) = p.flats.length := by rw [p.firsts_all, Pg.cnt, hii]; simp; omega
    have e9 : p.thr op i = p.flats.any fun e => decide (e.op = op) := by
      rw [p.firsts_all, Pg.thr, hii]; simp only [hasOp, List.any_append]
      cases (Sm.flats p.main).any _ <;> cases (Sm.flats p.recover).any _ <;> simp
    rw [e8] at h8
    rw [e9] at h9
    rw [hpc] at hexit ⊢
    rw [l_flotsamlaw16_TreeApart_w_0, M_loop, ← l_flotsamlaw16_TreeApart_w_0]
    simp [b_flotsamlaw16_TreeApart_w_0, h3, h10, hi, hl]
    exact hexit _ (by simp [h1]) (by simp [h2]) (by simp [h3]) (by simp [h7]) (by simp [h8]) (by simpa using h9)
  | succ j ih =>
    intro i φ hj h1 h2 h3 h7 h8 h9 h10
    have hi : (i : Int) < p.procs.length := by omega
    have hil : i < p.procs.length := by omega
    obtain ⟨x, hx, hmem, _⟩ := at_some hil
    have hr := Pg.prow hx
    have hs1 := p.firsts_size (i + 1)
    have hps := p.size_eq
    have hw : IntKind.i64.wrap ((i : Int) + 1) = ((i + 1 : Nat) : Int) := by rw [w64 (by omega) (by omega)]; rfl
    have hnx := p.firsts_next hx
    rw [hnx, sizes_append] at hs1
    have hc := Count_eq x.2 (by omega) []
    have hh := has_ok op 20000 x.2 (by omega) (Nat.le_refl _)
    unfold HasOK at hh
    have f1 := Sm.flats_sizes (p.firsts i)
    have f2 := Sm.flats_sizes x.2
    have f3 := Sm.flats_sizes p.main
    have f4 := Sm.flats_sizes p.recover
    have e8 : p.cnt (i + 1) = p.cnt i + (Sm.flats x.2).length := by rw [Pg.cnt, Pg.cnt, hnx, Sm.flats_append, List.length_append]; omega
    have e9 : p.thr op (i + 1) = (p.thr op i || hasOp op x.2) := by rw [Pg.thr, Pg.thr, hnx, hasOp_append]; simp [Bool.or_assoc]
    have hcb : p.cnt i ≤ 600 := by rw [Pg.cnt]; omega
    have hw2 : IntKind.i64.wrap ((p.cnt i : Int) + (Sm.flats x.2).length) = ((p.cnt i + (Sm.flats x.2).length : Nat) : Int) := by rw [w64 (by omega) (by omega)]; rfl
    obtain ⟨nm, b⟩ := x
    dsimp only at hr hc hh e8 e9 hw2
    have hn := ih (i + 1)
    rw [e8, e9] at hn
    rw [hpc] at hn ⊢
    rw [l_flotsamlaw16_TreeApart_w_0, M_loop, ← l_flotsamlaw16_TreeApart_w_0]
    cases hv : p.thr op i with
    | true =>
      rw [hv] at h9 hn
      simp [b_flotsamlaw16_TreeApart_w_0, h1, h2, h3, h8, h9, h10, hi, hl, hr, hc, hw, hw2]
      exact hn _ (by omega) (by simp [h1]) (by simp [h2]) (by simp [h3]) (by simp [h7]) (by simp) (by simp) (by simp)
    | false =>
      rw [hv] at h9 hn
      simp [b_flotsamlaw16_TreeApart_w_0, h1, h2, h3, h8, h9, h10, hi, hl, hr, hc, hh, hw, hw2]
      exact hn _ (by omega) (by simp [h1]) (by simp [h2]) (by simp [h3]) (by simp [h7]) (by simp) (by simp) (by simp)

theorem plain_rows (l : List Sm) : (∀ x, x ∈ Sm.rows l → ∀ y, y ∈ x → V.plain y = true) = True := by
  refine eq_true (fun x hx y hy => ?_)
  rw [Sm.rows_eq] at hx
  obtain ⟨e, _, rfl⟩ := List.mem_map.1 hx
  cases e
  simp only [Sm.cells, List.mem_cons, List.not_mem_nil, or_false] at hy
  rcases hy with rfl | rfl | rfl | rfl | rfl | rfl | rfl <;> rfl

theorem flats_loop (p : Pg) (hp : p.size ≤ 600) (op kk : Int) (Q : Option (V × Heap) → Prop) (k : List Item)
    (hexit : ∀ φ', Fr.get φ' 1 = .int .i64 kk → Fr.get φ' 3 = .ptr 0 0 → Fr.get φ' 7 = .sl 7 (Sm.rows p.flats) → Fr.get φ' 8 = .int .i64 p.flats.length → Fr.get φ' 9 = .bool (p.flats.any fun e => decide (e.op = op)) → Fr.get φ' 11 = .bool (p.flats.any fun e => decide (e.op = op)) → Q (M (eval tbl noExt) k φ' [some p.cells])) :
    ∀ (j i : Nat) (φ : Fr), i + j = p.flats.length → Fr.get φ 1 = .int .i64 kk → Fr.get φ 2 = .int .i64 op → Fr.get φ 3 = .ptr 0 0 → Fr.get φ 7 = .sl 7 (Sm.rows p.flats) → Fr.get φ 8 = .int .i64 p.flats.length → Fr.get φ 9 = .bool (p.flats.any fun e => decide (e.op = op)) → Fr.get φ 11 = .bool ((p.flats.take i).any fun e => decide (e.op = op)) → Fr.get φ 12 = .int .i64 i →
      Q (M (eval tbl noExt) (.code l_flotsamlaw16_TreeApart_w_1 :: .blk 2 :: k) φ [some p.cells]) := by
  have hpc : p.cells = [.sl 2 p.pcells, .sl 7 (Sm.rows p.main), .sl 7 (Sm.rows p.recover), .sl 5 p.ocells] := rfl
  have hrl := Sm.rows_len p.flats
  have hps := p.parts_size
  have hfl := Sm.flats_sizes p.parts.flatten
  have hfn : p.flats.length ≤ 600 := by simp only [Pg.flats]; omega
  intro j
  induction j with
  | zero =>
    intro i φ hj h1 h2 h3 h7 h8 h9 h11 h12
    have hi : ¬ ((i : Int) < p.flats.length) := by omega
    rw [List.take_of_length_le (by omega)] at h11
    rw [l_flotsamlaw16_TreeApart_w_1, M_loop, ← l_flotsamlaw16_TreeApart_w_1]
    simp [b_flotsamlaw16_TreeApart_w_1, h7, h12, hi, hrl]
    exact hexit _ (by simp [h1]) (by simp [h3]) (by simp [h7]) (by simp [h8]) (by simpa using h9) (by simpa using h11)
  | succ j ih =>
    intro i φ hj h1 h2 h3 h7 h8 h9 h11 h12
    have hi : (i : Int) < p.flats.length := by omega
    have hil : i < p.flats.length := by omega
    obtain ⟨e, he, hmem, _⟩ := at_some hil
    have hr := Sm.rows_at he
    have hes := Sm.flats_mem p.parts.flatten e hmem
    obtain ⟨ht1, ht2⟩ := Sm.flats_take p.parts.flatten i e he
    have htk : ((p.flats.take (i + 1)).any fun e => decide (e.op = op)) = (((p.flats.take i).any fun e => decide (e.op = op)) || decide (e.op = op)) := by
      rw [List.take_add_one, he]; simp
    obtain ⟨op', s, n, x, b, c, g⟩ := e
    have hin : Sm.inner (.mk op' s n x b c g) = b ++ c := rfl
    rw [hin] at ht1 ht2
    simp only [Sm.size] at hes
    have hbs := Sm.sizes_ge b
    have hcs := Sm.sizes_ge c
    have hsz : Sm.sizes (b ++ c) ≤ 600 := by rw [sizes_append]; omega
    have hfs := Sm.flats_sizes (b ++ c)
    have hcount := Count_eq (b ++ c) (by omega) []
    have hall := All_eq { procs := [], main := b ++ c, recover := [], oracles := [] } (by simp [Pg.size, Pg.psize, Pg.osize, Sm.sizes]; omega)
    have hfe : Pg.flats { procs := [], main := b ++ c, recover := [], oracles := [] } = Sm.flats (b ++ c) := by simp [Pg.flats, Pg.parts]
    rw [hfe] at hall
    have hsame := SameStmts_eq (Sm.flats (b ++ c)) (Sm.flats (b ++ c)) (by omega) (fun y hy => by have := Sm.flats_mem _ y hy; omega)
    rw [Sm.sames_rfl] at hsame
    obtain ⟨cnt, hcnt⟩ : ∃ cnt, cnt = (Sm.flats (b ++ c)).length := ⟨_, rfl⟩
    rw [← hcnt] at ht1 ht2 hcount
    obtain ⟨j1, hj1⟩ : ∃ j1, j1 = i + 1 := ⟨_, rfl⟩
    obtain ⟨j2, hj2⟩ : ∃ j2, j2 = j1 + cnt := ⟨_, rfl⟩
    have hw : IntKind.i64.wrap ((i : Int) + 1) = (j1 : Int) := by rw [w64 (by omega) (by omega), hj1]; rfl
    have hw2 : IntKind.i64.wrap ((j1 : Int) + cnt) = (j2 : Int) := by rw [w64 (by omega) (by omega), hj2]; rfl
    have hslice : ((Sm.rows p.flats).take j2).drop j1 = Sm.rows (Sm.flats (b ++ c)) := by
      rw [List.drop_take, hj2, show j1 + cnt - j1 = cnt by omega, Sm.rows_eq, ← List.map_drop, ← List.map_take, hj1, Pg.flats, ht2, Sm.rows_eq]
    have hlt : ¬ ((p.flats.length : Int) < j2) := by have := ht1; simp only [Pg.flats]; omega
    have hle : j1 ≤ j2 := by omega
    have hle2 : j2 ≤ p.flats.length := by omega
    have hb1 : 2 * b.length * 112 ≤ 281474976710656 := by omega
    have hb2 : 2 * (b.length + c.length) * 112 ≤ 281474976710656 := by omega
    rw [Sm.rows_append] at hcount
    simp only [Pg.cells, Pg.pcells, Pg.ocells, List.map_nil, Sm.rows_append, Sm.rows] at hall
    simp only [Sm.cells] at hr
    have hrb := Sm.rows_len b
    have hrc := Sm.rows_len c
    have hn := ih j1
    rw [← hj1] at htk
    rw [htk] at hn
    rw [hpc] at hn ⊢
    rw [l_flotsamlaw16_TreeApart_w_1, M_loop, ← l_flotsamlaw16_TreeApart_w_1]
    cases hv : ((p.flats.take i).any fun e => decide (e.op = op)) with
    | true =>
      rw [hv] at h11 hn
      simp [-V.plain, plain_rows, b_flotsamlaw16_TreeApart_w_1, h1, h2, h3, h7, h8, h9, h11, h12, hi, hrl, hr, hcount, hall, hsame, hw, hw2, hslice, hlt, hle, hle2, hb1, hb2, hrb, hrc]
      exact hn _ (by omega) (by simp [h1]) (by simp [h2]) (by simp [h3]) (by simp [h7]) (by simp [h8]) (by simp [h9]) (by simp) (by simp)
    | false =>
      rw [hv] at h11 hn
      simp [-V.plain, plain_rows, b_flotsamlaw16_TreeApart_w_1, h1, h2, h3, h7, h8, h9, h11, h12, hi, hrl, hr, hcount, hall, hsame, hw, hw2, hslice, hlt, hle, hle2, hb1, hb2, hrb, hrc]
      exact hn _ (by omega) (by simp [h1]) (by simp [h2]) (by simp [h3]) (by simp [h7]) (by simp [h8]) (by simp [h9]) (by simp [Sm.op]; rfl) (by simp)

theorem frz_sl (H : Heap) (k : Nat) (r : List (List V)) : frzV deepest H (.sl k r) = some (.sl k r, H) := by
  have hd : deepest = 99999 + 1 := rfl
  rw [hd]; simp [frzV]
theorem frz_mg {H : Heap} {i : Nat} {l : List Sm} (h : H[i]? = some (some (Sm.rows l).flatten)) : frzV deepest H (.mg 7 i 0 l.length l.length) = some (.sl 7 (Sm.rows l), H.set i none) := by
  have hl := Sm.flat_cells l
  have hd : deepest = 99998 + 1 + 1 := rfl
  rw [hd, frzV, h]
  simp only
  rw [if_pos (by omega), List.drop_zero, List.take_of_length_le (by omega), frzL_id (frzV_cell 99998 _ l)]
  simp only [chunk_rows]
theorem get3 {x a b : Option (List V)} {L R : Heap} {q : Nat} {c : Option (List V)} (h : L[q]? = some c) : (x :: a :: b :: (L ++ R))[3 + q]? = some c := by
  have hq : q < L.length := by
    rcases Nat.lt_or_ge q L.length with h1 | h1
    · exact h1
    · rw [List.getElem?_eq_none h1] at h; cases h
  rw [show 3 + q = q + 1 + 1 + 1 by omega]
  simp only [List.getElem?_cons_succ]
  rw [List.getElem?_append_left hq, h]
theorem set3 {x a b : Option (List V)} {L R : Heap} {q : Nat} (hq : q < L.length) (c : Option (List V)) : (x :: a :: b :: (L ++ R)).set (3 + q) c = x :: a :: b :: (L.set q c ++ R) := by
  rw [show 3 + q = q + 1 + 1 + 1 by omega]
  simp only [List.set_cons_succ]
  rw [List.set_append_left _ _ hq]

theorem sizes_set : ∀ (l : List Sm) (k : Nat) (e e' : Sm), l[k]? = some e → e'.size = e.size → Sm.sizes (l.set k e') = Sm.sizes l
  | [], _, _, _, h, _ => by simp at h
  | x :: l, 0, e, e', h, hs => by
    simp only [List.getElem?_cons_zero, Option.some.injEq] at h
    subst h
    simp only [List.set_cons_zero, Sm.sizes, hs]
  | x :: l, k + 1, e, e', h, hs => by
    simp only [List.getElem?_cons_succ] at h
    simp only [List.set_cons_succ, Sm.sizes, sizes_set l k e e' h hs]

/-- The end of the law: a copy of the program, and what becomes of it. -/
theorem tail_eq (p : Pg) (hp : p.size ≤ 600) (kk : Int) (φ : Fr) (h1 : Fr.get φ 1 = .int .i64 kk) (h3 : Fr.get φ 3 = .ptr 0 0) (h7 : Fr.get φ 7 = .sl 7 (Sm.rows p.flats)) (h8 : Fr.get φ 8 = .int .i64 p.flats.length) (t : Bool) (h9 : Fr.get φ 9 = .bool t) (h11 : Fr.get φ 11 = .bool t) :
    ∃ H', M (eval tbl noExt) [.code r_flotsamlaw16_TreeApart_w_0, .wfn [.t 6]] φ [some p.cells] = some (.bool true, H') := by
  have hrl := Sm.rows_len p.flats
  obtain ⟨v, L, a, b, hcl, hLS⟩ := Clonew_eq p (by omega)
  have hpc : p.cells = [.sl 2 (p.procs.map procCells), .sl 7 (Sm.rows p.main), .sl 7 (Sm.rows p.recover), .sl 5 (p.oracles.map oracleCells)] := rfl
  have hSp := Same_eq p p (by omega)
  rw [p.same_rfl] at hSp
  have hCp := Clone_eq p (by omega)
  rcases hLS with ⟨h0, rfl⟩ | ⟨q, h0, rfl, hq⟩
  · have e7 : Sm.rows p.main = [] := by rw [h0]; rfl
    rw [hpc, e7] at hcl hSp ⊢
    by_cases hk0 : kk < 0
    · simp [r_flotsamlaw16_TreeApart_w_0, h1, h3, h7, h8, h9, h11, hrl, callOwn, hcl, hk0, frz_sl, hSp]
    · have hk4 : 0 ≤ kk := by omega
      simp [r_flotsamlaw16_TreeApart_w_0, h1, h3, h7, h8, h9, h11, hrl, callOwn, hcl, hk0, hk4, frz_sl, hSp]
  · have hql : q < L.length := by
      rcases Nat.lt_or_ge q L.length with h | h
      · exact h
      · rw [List.getElem?_eq_none h] at hq; cases hq
    have hf : ∀ x a b R, frzV deepest (x :: a :: b :: (L ++ R)) (.mg 7 (3 + q) 0 p.main.length p.main.length) = some (.sl 7 (Sm.rows p.main), (x :: a :: b :: (L ++ R)).set (3 + q) none) := fun x a b R => frz_mg (get3 hq)
    by_cases hk : 0 ≤ kk ∧ kk < p.main.length
    · obtain ⟨hk1, hk2⟩ := hk
      obtain ⟨kn, rfl⟩ : ∃ kn : Nat, kk = kn := ⟨kk.toNat, by omega⟩
      have hkn : kn < p.main.length := by omega
      have hk0 : ¬ (kn : Int) < 0 := by omega
      have hk3 : ¬ ((p.main.length : Int) ≤ kn) := by omega
      obtain ⟨e, he⟩ : ∃ e, p.main[kn]? = some e := ⟨p.main[kn], List.getElem?_eq_getElem hkn⟩
      obtain ⟨op, s, n, x, bb, c, g⟩ := e
      obtain ⟨r1, r2⟩ := rows_flip p.main kn (.mk op s n x bb c g) op s n x bb c g he
      obtain ⟨m', hm'⟩ : ∃ m', m' = p.main.set kn (.mk op s n x bb c (!g)) := ⟨_, rfl⟩
      rw [← hm'] at r1
      have hml : m'.length = p.main.length := by rw [hm', List.length_set]
      have hFl := Sm.flat_cells p.main
      have hoff : kn * 7 + 6 + 1 ≤ (Sm.rows p.main).flatten.length := by omega
      have hne : m' ≠ p.main := fun h => by
        have h2 : m'[kn]? = some (.mk op s n x bb c (!g)) := by rw [hm', List.getElem?_set_self hkn]
        rw [h, he] at h2
        simp only [Option.some.injEq, Sm.mk.injEq] at h2
        have := h2.2.2.2.2.2.2
        cases g <;> simp at this
      have hg2 : (L.set q (some (Sm.rows m').flatten))[q]? = some (some (Sm.rows m').flatten) := List.getElem?_set_self hql
      have hf2 : ∀ x a b R, frzV deepest (x :: a :: b :: (L.set q (some (Sm.rows m').flatten) ++ R)) (.mg 7 (3 + q) 0 p.main.length p.main.length) = some (.sl 7 (Sm.rows m'), (x :: a :: b :: (L.set q (some (Sm.rows m').flatten) ++ R)).set (3 + q) none) := fun x a b R => by rw [← hml]; exact frz_mg (get3 hg2)
      have hcc : ∀ c y, (L.set q c ++ [y])[L.length]? = some y := fun c y => by
        have := get0 (L.set q c) y []
        rwa [List.length_set] at this
      have hsz : ({ p with main := m' } : Pg).size ≤ 20000 := by
        have e : Sm.sizes m' = Sm.sizes p.main := by rw [hm']; exact sizes_set p.main kn _ _ he rfl
        have e2 : ({ p with main := m' } : Pg).size = p.size := by simp only [Pg.size, Pg.psize, Pg.osize, e]
        omega
      have hSa := Same_eq { p with main := m' } p hsz
      have hSb := Same_eq p { p with main := m' } (by omega)
      have ea : ({ p with main := m' } : Pg).same p = false := by
        have : Sm.sames m' p.main = false := by
          cases h : Sm.sames m' p.main with
          | false => rfl
          | true => exact absurd (Sm.sames_eq _ _ h) hne
        simp [Pg.same, this]
      have eb : p.same { p with main := m' } = false := by
        have : Sm.sames p.main m' = false := by
          cases h : Sm.sames p.main m' with
          | false => rfl
          | true => exact absurd (Sm.sames_eq _ _ h).symm hne
        simp [Pg.same, this]
      rw [ea] at hSa
      rw [eb] at hSb
      have hmc : ({ p with main := m' } : Pg).cells = [.sl 2 (p.procs.map procCells), .sl 7 (Sm.rows m'), .sl 7 (Sm.rows p.recover), .sl 5 (p.oracles.map oracleCells)] := rfl
      rw [hmc, hpc] at hSa hSb
      rw [hpc] at hcl hSp hCp ⊢
      simp [-List.length_flatten, r_flotsamlaw16_TreeApart_w_0, h1, h3, h7, h8, h9, h11, hrl, callOwn, hcl, hk0, hk3, hkn, get0, set0, get3 hq, set3 hql, hoff, r1, r2, hf2, hcc, frz_sl, hSa, hSb, hSp, hCp]
    · rw [hpc] at hcl hSp ⊢
      by_cases hk0 : kk < 0
      · simp [r_flotsamlaw16_TreeApart_w_0, h1, h3, h7, h8, h9, h11, hrl, callOwn, hcl, hk0, frz_sl, hf, hSp]
      · have hk3 : (p.main.length : Int) ≤ kk := by omega
        simp [r_flotsamlaw16_TreeApart_w_0, h1, h3, h7, h8, h9, h11, hrl, callOwn, hcl, hk0, hk3, frz_sl, hf, hSp]

theorem TreeApart_eq (p : Pg) (hfit : p.fit) (kk : Int) (_ : (Lit.int .i64 kk).wf = true) (op : Int) (_ : (Lit.int .i64 op).wf = true) : ∃ H', eval tbl noExt (wNo n_flotsamlaw16_TreeApart) [.agg p.cells, .int .i64 kk, .int .i64 op] [] = some (.bool true, H') := by
  obtain ⟨b, hb, hs⟩ := Small_eq p
  have hpc : p.cells = [.sl 2 p.pcells, .sl 7 (Sm.rows p.main), .sl 7 (Sm.rows p.recover), .sl 5 p.ocells] := rfl
  rw [eval_W tw_flotsamlaw16_TreeApart rfl]
  cases b with
  | false =>
    rw [hpc] at hb ⊢
    simp [c_flotsamlaw16_TreeApart_w, hb, knows16]
  | true =>
    obtain ⟨hsz, _⟩ := hs rfl
    have ha := All_eq p (by omega)
    have hs2 := p.size_eq
    have hcm := Count_eq p.main (by omega) []
    have hcr := Count_eq p.recover (by omega) []
    have hhm := has_ok op 20000 p.main (by omega) (Nat.le_refl _)
    have hhr := has_ok op 20000 p.recover (by omega) (Nat.le_refl _)
    unfold HasOK at hhm hhr
    have f3 := Sm.flats_sizes p.main
    have f4 := Sm.flats_sizes p.recover
    have hw : IntKind.i64.wrap (((Sm.flats p.main).length : Int) + (Sm.flats p.recover).length) = (p.cnt 0 : Int) := by
      rw [w64 (by omega) (by omega), Pg.cnt]; simp [Pg.firsts, Sm.flats]
    have ht : p.thr op 0 = (hasOp op p.main || hasOp op p.recover) := by simp [Pg.thr, Pg.firsts, hasOp, Sm.flats]
    have key : ∀ φ, Fr.get φ 1 = .int .i64 kk → Fr.get φ 2 = .int .i64 op → Fr.get φ 3 = .ptr 0 0 → Fr.get φ 7 = .sl 7 (Sm.rows p.flats) → Fr.get φ 8 = .int .i64 (p.cnt 0) → Fr.get φ 9 = .bool (p.thr op 0) → Fr.get φ 10 = .int .i64 0 →
        ∃ H', M (eval tbl noExt) (.code l_flotsamlaw16_TreeApart_w_0 :: .blk 0 :: [.code r_flotsamlaw16_TreeApart_w_1, .wfn [.t 6]]) φ [some p.cells] = some (.bool true, H') := by
      intro φ g1 g2 g3 g7 g8 g9 g10
      refine procs_loop p hsz op kk [] (fun o => ∃ H', o = some (.bool true, H')) _ (fun φ' h1 h2 h3 h7 h8 h9 => ?_) p.procs.length 0 φ (by omega) g1 g2 g3 g7 g8 g9 g10
      have key2 : ∀ φ, Fr.get φ 1 = .int .i64 kk → Fr.get φ 2 = .int .i64 op → Fr.get φ 3 = .ptr 0 0 → Fr.get φ 7 = .sl 7 (Sm.rows p.flats) → Fr.get φ 8 = .int .i64 p.flats.length → Fr.get φ 9 = .bool (p.flats.any fun e => decide (e.op = op)) → Fr.get φ 11 = .bool false → Fr.get φ 12 = .int .i64 0 →
          ∃ H', M (eval tbl noExt) (.code l_flotsamlaw16_TreeApart_w_1 :: .blk 2 :: [.code r_flotsamlaw16_TreeApart_w_0, .wfn [.t 6]]) φ [some p.cells] = some (.bool true, H') := by
        intro φ g1 g2 g3 g7 g8 g9 g11 g12
        exact flats_loop p hsz op kk (fun o => ∃ H', o = some (.bool true, H')) _ (fun φ' h1 h3 h7 h8 h9 h11 => tail_eq p hsz kk φ' h1 h3 h7 h8 _ h9 h11) p.flats.length 0 φ (by omega) g1 g2 g3 g7 g8 g9 (by simpa using g11) g12
      simp [r_flotsamlaw16_TreeApart_w_1]
      exact key2 _ (by simp [h1]) (by simp [h2]) (by simp [h3]) (by simp [h7]) (by simp [h8]) (by simpa using h9) (by simp) (by simp)
    rw [ht] at key
    rw [hpc] at hb ha key ⊢
    cases hv : hasOp op p.main with
    | true =>
      rw [hv] at hhm key
      simp [c_flotsamlaw16_TreeApart_w, hb, knows16, ha, hcm, hcr, hhm, hw]
      exact key _ (by simp) (by simp) (by simp) (by simp) (by simp) (by simp) (by simp)
    | false =>
      rw [hv] at hhm key
      simp [c_flotsamlaw16_TreeApart_w, hb, knows16, ha, hcm, hcr, hhm, hhr, hw]
      exact key _ (by simp) (by simp) (by simp) (by simp) (by simp) (by simp) (by simp)

end Go.AM.Spec
