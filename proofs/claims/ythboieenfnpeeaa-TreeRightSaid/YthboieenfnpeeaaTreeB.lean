/-
  The walk over a block's statements: what is yielded, in order; Count, parts, All.
-/
import Derived.Test.YthboieenfnpeeaaTreeA
namespace Go.AM.Spec
set_option linter.unusedVariables false
set_option linter.unusedSimpArgs false
set_option maxHeartbeats 1000000

mutual
/-- A statement, and those in it. -/
def Sm.flat : Sm → List Sm
  | .mk op s n e b c k => .mk op s n e b c k :: (Sm.flats b ++ Sm.flats c)
def Sm.flats : List Sm → List Sm
  | [] => []
  | e :: l => e.flat ++ Sm.flats l
end

theorem Sm.flats_append (a b : List Sm) : Sm.flats (a ++ b) = Sm.flats a ++ Sm.flats b := by
  induction a with
  | nil => rfl
  | cons e l ih => simp [Sm.flats, ih]

mutual
theorem Sm.flat_size : ∀ e : Sm, e.flat.length ≤ e.size
  | .mk op s n e b c k => by
    have := Sm.flats_sizes b
    have := Sm.flats_sizes c
    simp only [Sm.flat, Sm.size, List.length_cons, List.length_append]; omega
theorem Sm.flats_sizes : ∀ l : List Sm, (Sm.flats l).length ≤ Sm.sizes l
  | [] => Nat.le_refl _
  | e :: l => by
    have := Sm.flat_size e
    have := Sm.flats_sizes l
    simp only [Sm.flats, Sm.sizes, List.length_append]; omega
end

mutual
theorem Sm.flat_mem : ∀ (e x : Sm), x ∈ e.flat → x.size ≤ e.size
  | .mk op s n e b c k, x, h => by
    simp only [Sm.flat, List.mem_cons, List.mem_append] at h
    rcases h with rfl | h | h
    · exact Nat.le_refl _
    · have := Sm.flats_mem b x h; simp only [Sm.size]; omega
    · have := Sm.flats_mem c x h; simp only [Sm.size]; omega
theorem Sm.flats_mem : ∀ (l : List Sm) (x : Sm), x ∈ Sm.flats l → x.size ≤ Sm.sizes l
  | [], _, h => by simp [Sm.flats] at h
  | e :: l, x, h => by
    simp only [Sm.flats, List.mem_append] at h
    simp only [Sm.sizes]
    rcases h with h | h
    · have := Sm.flat_mem e x h; omega
    · have := Sm.flats_mem l x h; omega
end

/-- A yield that takes statements down: what it has of them lies in the memory's first part. -/
def YS (i : Nat) (hp : List Sm → Heap) (N : Nat) : Prop :=
  ∀ (x : List Sm) (s : Sm) (L : Heap), s.size ≤ 1000 → x.length < N → eval tbl noExt (yBase + i) [.agg s.cells] (hp x ++ L) = some (.bool true, hp (x ++ [s]) ++ L)

theorem at_hp {hp : Heap} {m : Nat} (h : hp.length = m) (L : Heap) (k : Nat) : (hp ++ L)[m + k]? = L[k]? := by
  rw [List.getElem?_append_right (by omega)]; congr 1; omega
theorem set_hp {hp : Heap} {m : Nat} (h : hp.length = m) (L : Heap) (k : Nat) (v : Option (List V)) : (hp ++ L).set (m + k) v = hp ++ L.set k v := by
  rw [List.set_append_right _ _ (by omega)]; congr 2; omega
theorem take_hp {hp : Heap} {m : Nat} (h : hp.length = m) (L : Heap) (k : Nat) : (hp ++ L).take (m + k) = hp ++ L.take k := by
  rw [List.take_append, List.take_of_length_le (by omega)]; congr 2; omega

theorem walk_eq (l : List (List V)) (H : Heap) : eval tbl noExt n_tree_walk [.sl 7 l] H = some (.fn (.func n_tree_walk_1) [] [.ptr H.length 0], H ++ [some [V.sl 7 l]]) := by
  rw [eval_M rfl rfl t_tree_walk rfl]
  simp [c_tree_walk]

/-- The inner loop's round hands its statement on. -/
theorem inner_round {i m N j p : Nat} {hp : List Sm → Heap} (hlen : ∀ x, (hp x).length = m) (hy : YS i hp N) (A : Heap) (hj : j = m + A.length)
    (hp2 : ∀ x L, ((hp x ++ A) ++ L)[p]? = some (some [.yld i])) :
    YS j (fun x => hp x ++ (A ++ [some [V.lrec 0 0 q_tree_walk_1_0 [30] [2] [V.ptr p 0]]])) N := by
  intro x s L hs hx
  have hrec : ∀ (x : List Sm) (r : List V) (L : Heap), (hp x ++ (A ++ some r :: L))[j]? = some (some r) := by
    intro x r L
    rw [hj, at_hp (hlen x)]; simp
  have hset : ∀ (x : List Sm) (r r' : List V) (L : Heap), (hp x ++ (A ++ some r :: L)).set j (some r') = hp x ++ (A ++ some r' :: L) := by
    intro x r r' L
    rw [hj, set_hp (hlen x)]; simp
  have hp3 : ∀ x L, (hp x ++ (A ++ L))[p]? = some (some [.yld i]) := fun x L => by rw [← List.append_assoc]; exact hp2 x L
  have h1 : recAt (hp x ++ (A ++ some [V.lrec 0 0 q_tree_walk_1_0 [30] [2] [V.ptr p 0]] :: L)) j = some (0, 0, q_tree_walk_1_0, [30], [2], [.ptr p 0]) := by
    unfold recAt; rw [hrec]
  obtain ⟨op, w, n, e, b, c, g⟩ := s
  have e1 : hp x ++ (A ++ [some [V.lrec 0 0 q_tree_walk_1_0 [30] [2] [V.ptr p 0]]]) ++ L = hp x ++ (A ++ some [V.lrec 0 0 q_tree_walk_1_0 [30] [2] [V.ptr p 0]] :: L) := by simp
  show eval tbl noExt (yBase + j) _ (hp x ++ (A ++ [some [V.lrec 0 0 q_tree_walk_1_0 [30] [2] [V.ptr p 0]]]) ++ L) = some (_, hp (x ++ [_]) ++ (A ++ [some [V.lrec 0 0 q_tree_walk_1_0 [30] [2] [V.ptr p 0]]]) ++ L)
  rw [e1, eval_Y h1 u_tree_walk_1_0 rfl]
  have hlenx : ∀ x, (hp x).length = m := hlen
  have hy' := hy x (.mk op w n e b c g)
  simp only [Sm.cells] at hy' ⊢
  have hlast : ∀ (x : List Sm) (r z : List V) (L : Heap), (hp x ++ (A ++ some r :: (L ++ [some z])))[m + (A.length + (L.length + 1))]? = some (some z) := by
    intro x r z L
    rw [at_hp (hlen x)]
    rw [List.getElem?_append_right (by omega)]
    simp [Nat.add_sub_cancel_left]
  have hsetl : ∀ (x : List Sm) (r z z' : List V) (L : Heap), (hp x ++ (A ++ some r :: (L ++ [some z]))).set (m + (A.length + (L.length + 1))) (some z') = hp x ++ (A ++ some r :: (L ++ [some z'])) := by
    intro x r z z' L
    rw [set_hp (hlen x), List.set_append_right _ _ (by omega)]
    simp [Nat.add_sub_cancel_left]
  have htake : ∀ (x : List Sm) (r z : List V) (L : Heap), (hp x ++ (A ++ some r :: (L ++ [some z]))).take (m + (A.length + (L.length + 1))) = hp x ++ (A ++ some r :: L) := by
    intro x r z L
    rw [take_hp (hlen x), List.take_append, List.take_of_length_le (by omega)]
    simp [Nat.add_sub_cancel_left]
  simp [a_tree_walk_1_0, y_tree_walk_1_0, hlenx, hlast, hsetl, recAt, hrec, hset, hp3, hy' _ hs hx, endRound, pendOf, htake]

/-- The walk hands all statements of a block to its yield. -/
def WalkOK (l : List Sm) : Prop := ∀ (i m N p : Nat) (hp : List Sm → Heap) (L : Heap) (x : List Sm), (∀ x, (hp x).length = m) → YS i hp N → (∀ x, (hp x ++ L)[p]? = some (some [V.sl 7 (Sm.rows l)])) → x.length + (Sm.flats l).length ≤ N →
  eval tbl noExt n_tree_walk_1 [.yld i, .ptr p 0] (hp x ++ L) = some (.tup [], hp (x ++ Sm.flats l) ++ L)

theorem inner_loop {i m N q : Nat} {hp : List Sm → Heap} (hlen : ∀ x, (hp x).length = m) (hy : YS i hp N) (L0 : Heap) (hq : L0[q]? = some (some [.yld i])) (v8 v9 v10 : V) (bs : List (List Sm)) (hbs : ∀ b ∈ bs, WalkOK b) (hb2 : bs.length ≤ 2)
    (R : Option (V × Heap)) (k : List Item) :
    ∀ (j t : Nat) (x : List Sm) (φ : Fr) (T : Heap), t + j = bs.length → x.length + (Sm.flats (bs.drop t).flatten).length ≤ N → Fr.get φ 2 = .ptr (m + q) 0 → Fr.get φ 8 = v8 → Fr.get φ 9 = v9 → Fr.get φ 10 = v10 → Fr.get φ 22 = .own 1 (bs.map fun b => [.sl 7 (Sm.rows b)]) → Fr.get φ 23 = .int .i64 bs.length → Fr.get φ 24 = .int .i64 t →
      (∀ φ' T', Fr.get φ' 2 = .ptr (m + q) 0 → Fr.get φ' 8 = v8 → Fr.get φ' 9 = v9 → Fr.get φ' 10 = v10 → M (eval tbl noExt) k φ' (hp (x ++ Sm.flats (bs.drop t).flatten) ++ (L0 ++ T')) = R) →
      M (eval tbl noExt) (.code l_tree_walk_1_0 :: .blk 2 :: k) φ (hp x ++ (L0 ++ T)) = R := by
  intro j
  induction j with
  | zero =>
    intro t x φ T hj hN h2 h8 h9 h10 h22 h23 h24 hexit
    have hi : ¬ ((t : Int) < bs.length) := by omega
    rw [List.drop_of_length_le (by omega)] at hexit
    simp only [List.flatten_nil, Sm.flats, List.append_nil] at hexit
    rw [l_tree_walk_1_0, M_loop, ← l_tree_walk_1_0]
    simp [b_tree_walk_1_0, h2, h8, h9, h10, h22, h23, h24, hi]
    exact hexit _ T (by simp [h2]) (by simp [h8]) (by simp [h9]) (by simp [h10])
  | succ j ih =>
    intro t x φ T hj hN h2 h8 h9 h10 h22 h23 h24 hexit
    have hi : (t : Int) < bs.length := by omega
    have hil : t < bs.length := by omega
    obtain ⟨b, hb⟩ : ∃ b, bs[t]? = some b := ⟨bs[t], List.getElem?_eq_getElem hil⟩
    have hmem : b ∈ bs := List.mem_of_getElem? hb
    have hdrop : bs.drop t = b :: bs.drop (t + 1) := by
      rw [List.drop_eq_getElem_cons hil]
      rw [List.getElem?_eq_getElem hil] at hb
      rw [Option.some.inj hb]
    rw [hdrop] at hN hexit
    simp only [List.flatten_cons, Sm.flats_append, List.length_append, ← List.append_assoc] at hN hexit
    have hrow : (bs.map fun b => [V.sl 7 (Sm.rows b)])[t]? = some [V.sl 7 (Sm.rows b)] := by rw [List.getElem?_map, hb]; rfl
    have hw : IntKind.i64.wrap ((t : Int) + 1) = ((t + 1 : Nat) : Int) := by rw [w64 (by omega) (by omega)]; rfl
    have hbox : ∀ x L, (((hp x) ++ (L0 ++ T ++ [some [V.sl 7 (Sm.rows b)]])) ++ L)[m + q]? = some (some [.yld i]) := by
      intro x L
      have hq' : q < L0.length := by
        rw [List.getElem?_eq_some_iff] at hq; exact hq.1
      rw [List.append_assoc, at_hp (hlen x), List.append_assoc, List.append_assoc, List.getElem?_append_left hq', hq]
    have hys := inner_round (j := m + (L0.length + (T.length + 1))) hlen hy (L0 ++ T ++ [some [V.sl 7 (Sm.rows b)]]) (by simp only [List.length_append, List.length_cons, List.length_nil]; omega) hbox
    have hwk := hbs b hmem (m + (L0.length + (T.length + 1))) (m + (L0.length + (T.length + 1)) + 1) N (m + (L0.length + T.length)) (fun x => hp x ++ (L0 ++ T ++ [some [V.sl 7 (Sm.rows b)]] ++ [some [V.lrec 0 0 q_tree_walk_1_0 [30] [2] [V.ptr (m + q) 0]]])) [] x (by intro x; simp only [List.length_append, hlen, List.length_cons, List.length_nil]; omega) hys (by
      intro x
      rw [List.append_nil, at_hp (hlen x), List.append_assoc, ← List.length_append, List.getElem?_append_right (Nat.le_refl _), Nat.sub_self]
      rfl) (by omega)
    simp only [List.append_nil] at hwk
    have hread : recAt (hp (x ++ Sm.flats b) ++ (L0 ++ T ++ [some [V.sl 7 (Sm.rows b)]] ++ [some [V.lrec 0 0 q_tree_walk_1_0 [30] [2] [V.ptr (m + q) 0]]])) (m + (L0.length + (T.length + 1))) = some (0, 0, q_tree_walk_1_0, [30], [2], [.ptr (m + q) 0]) := by
      unfold recAt
      rw [at_hp (hlen _), List.getElem?_append_right (by simp)]
      simp
    have htake : (hp (x ++ Sm.flats b) ++ (L0 ++ T ++ [some [V.sl 7 (Sm.rows b)]] ++ [some [V.lrec 0 0 q_tree_walk_1_0 [30] [2] [V.ptr (m + q) 0]]])).take (m + (L0.length + (T.length + 1))) = hp (x ++ Sm.flats b) ++ (L0 ++ (T ++ [some [V.sl 7 (Sm.rows b)]])) := by
      rw [take_hp (hlen _), List.take_append_of_le_length (by simp only [List.length_append, List.length_cons, List.length_nil]; omega), List.take_of_length_le (by simp only [List.length_append, List.length_cons, List.length_nil]; omega)]
      simp
    have e1 : (L0 ++ T ++ [some [V.sl 7 (Sm.rows b)]] ++ [some [V.lrec 0 0 q_tree_walk_1_0 [30] [2] [V.ptr (m + q) 0]]] : Heap) = L0 ++ (T ++ [some [V.sl 7 (Sm.rows b)], some [V.lrec 0 0 q_tree_walk_1_0 [30] [2] [V.ptr (m + q) 0]]]) := by simp
    rw [e1] at hwk hread htake
    rw [l_tree_walk_1_0, M_loop, ← l_tree_walk_1_0]
    simp [b_tree_walk_1_0, h2, h8, h9, h10, h22, h23, h24, hi, hrow, walk_eq, lt_tree_walk, lt_tree_walk_1, hlen, hwk, hread, htake, r_tree_walk_1_0, hw]
    refine ih (t + 1) (x ++ Sm.flats b) _ (T ++ [some [V.sl 7 (Sm.rows b)]]) (by omega) (by simp; omega) ?_ ?_ ?_ ?_ ?_ ?_ ?_ ?_
    · simp [h2]
    · simp [h8]
    · simp [h9]
    · simp [h10]
    · simp [h22]
    · simp [h23]
    · simp
    · intro φ' T' g2 g8 g9 g10
      have := hexit φ' T' g2 g8 g9 g10
      simpa using this

/-- The blocks in a statement. -/
def Sm.blocks : Sm → List (List Sm)
  | .mk _ _ _ _ b c _ => [b, c]

theorem outer_loop {i m N q : Nat} {hp : List Sm → Heap} (hlen : ∀ x, (hp x).length = m) (hy : YS i hp N) (L0 : Heap) (hq : L0[q]? = some (some [V.yld i])) (l : List Sm) (hl : l.length ≤ 1000) (hbs : ∀ e ∈ l, e.size ≤ 1000 ∧ ∀ b ∈ e.blocks, WalkOK b)
    (R : Option (V × Heap)) (k : List Item) :
    ∀ (j t : Nat) (x : List Sm) (φ : Fr) (T : Heap), t + j = l.length → x.length + (Sm.flats (l.drop t)).length ≤ N → Fr.get φ 2 = .ptr (m + q) 0 → Fr.get φ 8 = .sl 7 (Sm.rows l) → Fr.get φ 9 = .int .i64 l.length → Fr.get φ 10 = .int .i64 t →
      (∀ φ' T', M (eval tbl noExt) k φ' (hp (x ++ Sm.flats (l.drop t)) ++ (L0 ++ T')) = R) →
      M (eval tbl noExt) (.code l_tree_walk_1_1 :: .blk 0 :: k) φ (hp x ++ (L0 ++ T)) = R := by
  intro j
  induction j with
  | zero =>
    intro t x φ T hj hN h2 h8 h9 h10 hexit
    have hi : ¬ ((t : Int) < l.length) := by omega
    rw [List.drop_of_length_le (by omega)] at hexit
    simp only [Sm.flats, List.append_nil] at hexit
    rw [l_tree_walk_1_1, M_loop, ← l_tree_walk_1_1]
    simp [b_tree_walk_1_1, h2, h8, h9, h10, hi]
    exact hexit _ T
  | succ j ih =>
    intro t x φ T hj hN h2 h8 h9 h10 hexit
    have hi : (t : Int) < l.length := by omega
    have hil : t < l.length := by omega
    obtain ⟨e, he⟩ : ∃ e, l[t]? = some e := ⟨l[t], List.getElem?_eq_getElem hil⟩
    have hmem : e ∈ l := List.mem_of_getElem? he
    obtain ⟨hsz, hwalk⟩ := hbs e hmem
    have hdrop : l.drop t = e :: l.drop (t + 1) := by
      rw [List.drop_eq_getElem_cons hil]
      rw [List.getElem?_eq_getElem hil] at he
      rw [Option.some.inj he]
    obtain ⟨op, w, n, ee, b, c, g⟩ := e
    rw [hdrop] at hN hexit
    simp only [Sm.flats, Sm.flat, List.length_append, List.length_cons] at hN hexit
    have hrow : (Sm.rows l)[t]? = some (Sm.cells (.mk op w n ee b c g)) := by rw [Sm.rows_eq, List.getElem?_map, he]; rfl
    have hcl : (Sm.rows l).length = l.length := by rw [Sm.rows_eq]; simp
    have hw : IntKind.i64.wrap ((t : Int) + 1) = ((t + 1 : Nat) : Int) := by rw [w64 (by omega) (by omega)]; rfl
    have hq' : q < L0.length := by
      rw [List.getElem?_eq_some_iff] at hq; exact hq.1
    have hyl : ∀ x L, (hp x ++ (L0 ++ L))[m + q]? = some (some [V.yld i]) := by
      intro x L
      rw [at_hp (hlen x), List.getElem?_append_left hq', hq]
    have hlast : ∀ (x : List Sm) (z : List V), (hp x ++ (L0 ++ (T ++ [some z])))[m + (L0.length + T.length)]? = some (some z) := by
      intro x z
      rw [at_hp (hlen x), ← List.append_assoc, ← List.length_append, List.getElem?_append_right (Nat.le_refl _), Nat.sub_self]
      rfl
    have hsetl : ∀ (x : List Sm) (z z' : List V), (hp x ++ (L0 ++ (T ++ [some z]))).set (m + (L0.length + T.length)) (some z') = hp x ++ (L0 ++ (T ++ [some z'])) := by
      intro x z z'
      rw [set_hp (hlen x), ← List.append_assoc, ← List.length_append, List.set_append_right _ _ (Nat.le_refl _), Nat.sub_self]
      simp
    have hy' := hy x (.mk op w n ee b c g)
    simp only [Sm.cells] at hy' hrow
    rw [l_tree_walk_1_1, M_loop, ← l_tree_walk_1_1]
    simp [b_tree_walk_1_1, h2, h8, h9, h10, hi, hrow, hcl, hlen, hlast, hsetl, hyl, hy' _ hsz (by omega)]
    refine inner_loop hlen hy L0 hq (.sl 7 (Sm.rows l)) (.int .i64 l.length) (.int .i64 t) [b, c] (fun z hz => hwalk z (by simpa [Sm.blocks] using hz)) (by simp) _ _ 2 0 _ _ _ (by simp) (by simp [Sm.flats_append]; omega) (by simp [h2]) (by simp [h8]) (by simp [h9]) (by simp [h10]) ?_ (by simp) (by simp) ?_
    · simp
    intro φ' T' g2 g8 g9 g10
    simp [r_tree_walk_1_1, g10, hw]
    refine ih (t + 1) _ _ T' (by omega) (by simp [Sm.flats_append]; omega) (by simp [g2]) (by simp [g8]) (by simp [g9]) (by simp) ?_
    intro φ'' T''
    have := hexit φ'' T''
    simpa [Sm.flats_append] using this

theorem walk_step (l : List Sm) (hl : l.length ≤ 1000) (hbs : ∀ e ∈ l, e.size ≤ 1000 ∧ ∀ b ∈ e.blocks, WalkOK b) : WalkOK l := by
  intro i m N p hp L x hlen hy hb hN
  have hb' : ∀ x K, (hp x ++ (L ++ K))[p]? = some (some [V.sl 7 (Sm.rows l)]) := by
    intro x K
    have h := hb x
    rw [← List.append_assoc, List.getElem?_append_left (List.getElem?_eq_some_iff.1 h).1, h]
  have hcl : (Sm.rows l).length = l.length := by rw [Sm.rows_eq]; simp
  rw [eval_M rfl rfl t_tree_walk_1 rfl]
  simp [c_tree_walk_1, hb', hlen, hcl]
  have e : hp x ++ (L ++ [some [V.yld i]]) = hp x ++ ((L ++ [some [V.yld i]]) ++ []) := by simp
  rw [e]
  refine outer_loop hlen hy (L ++ [some [V.yld i]]) (q := L.length) (by simp) l hl hbs _ _ l.length 0 x _ [] (by omega) (by simpa using hN) (by simp) (by simp) (by simp) (by simp) ?_
  intro φ' T'
  have ht : (hp (x ++ Sm.flats l) ++ (L ++ [some [V.yld i]] ++ T')).take (m + L.length) = hp (x ++ Sm.flats l) ++ L := by
    rw [take_hp (hlen _), List.append_assoc, List.take_left]
  simp at ht
  simp [ht]

theorem walk_ok : ∀ (n : Nat) (l : List Sm), Sm.sizes l ≤ n → n ≤ 1000 → WalkOK l := by
  intro n
  induction n with
  | zero =>
    intro l hl hn
    have h0 : l = [] := by
      have := Sm.sizes_ge l
      exact List.length_eq_zero_iff.1 (by omega)
    subst h0
    exact walk_step [] (by simp) (by simp)
  | succ n ih =>
    intro l hl hn
    refine walk_step l (by have := Sm.sizes_ge l; omega) fun e he => ⟨by have := Sm.sizes_mem he; omega, fun b hb => ih b ?_ (by omega)⟩
    have h1 := Sm.sizes_mem he
    obtain ⟨op, w, m, ee, b1, b2, g⟩ := e
    simp only [Sm.size] at h1
    simp only [Sm.blocks, List.mem_cons, List.not_mem_nil, or_false] at hb
    rcases hb with rfl | rfl <;> omega

/-! What Count answers. -/
theorem count_round (H : Heap) (b : List (Option (List V))) (hb : b.length = 1) :
    YS (H.length + 2) (fun x => H ++ (some [V.int .i64 x.length] :: (b ++ [some [V.lrec 0 0 q_tree_Count_0 [6] [3] [V.ptr H.length 0]]]))) 100000 := by
  intro x s L hs hx
  obtain ⟨b, rfl⟩ := List.length_eq_one_iff.1 hb
  show eval tbl noExt _ _ (H ++ (some [V.int .i64 x.length] :: ([b] ++ [some [V.lrec 0 0 q_tree_Count_0 [6] [3] [V.ptr H.length 0]]])) ++ L) = some (_, H ++ (some [V.int .i64 (x ++ [s]).length] :: ([b] ++ [some [V.lrec 0 0 q_tree_Count_0 [6] [3] [V.ptr H.length 0]]])) ++ L)
  have h1 : recAt (H ++ (some [V.int .i64 x.length] :: ([b] ++ [some [V.lrec 0 0 q_tree_Count_0 [6] [3] [V.ptr H.length 0]]])) ++ L) (H.length + 2) = some (0, 0, q_tree_Count_0, [6], [3], [V.ptr H.length 0]) := by
    unfold recAt
    rw [List.append_assoc, at_hp rfl]; simp
  have hg : ∀ (A : Heap) (k : Nat), (H ++ A)[H.length + k]? = A[k]? := fun A k => at_hp rfl A k
  have hg0 : ∀ (A : Heap), (H ++ A)[H.length]? = A[0]? := fun A => at_hp rfl A 0
  have hs' : ∀ (A : Heap) (k : Nat) v, (H ++ A).set (H.length + k) v = H ++ A.set k v := fun A k v => set_hp rfl A k v
  have hs0 : ∀ (A : Heap) v, (H ++ A).set H.length v = H ++ A.set 0 v := fun A v => set_hp rfl A 0 v
  have hw : IntKind.i64.wrap ((x.length : Int) + 1) = ((x.length + 1 : Nat) : Int) := by rw [w64 (by omega) (by omega)]; rfl
  rw [eval_Y h1 u_tree_Count_0 rfl]
  simp [a_tree_Count_0, y_tree_Count_0, recAt, hg, hg0, hs', hs0, endRound, pendOf, hw]
  rw [List.take_of_length_le (by simp)]

theorem Count_eq (l : List Sm) (hl : Sm.sizes l ≤ 1000) (H : Heap) : eval tbl noExt n_tree_Count [.sl 7 (Sm.rows l)] H = some (.int .i64 (Sm.flats l).length, H) := by
  have hfl := Sm.flats_sizes l
  have hwk := walk_ok 1000 l hl (Nat.le_refl _) (H.length + 2) (H.length + 3) 100000 (H.length + 1) _ [] [] (by intro x; simp) (count_round H [some [V.sl 7 (Sm.rows l)]] rfl) (by
    intro x
    rw [List.append_nil, at_hp rfl]; rfl) (by simp; omega)
  simp only [List.append_nil, List.nil_append, List.length_nil] at hwk
  rw [eval_M rfl rfl t_tree_Count rfl]
  have hg : ∀ (A : Heap) (k : Nat), (H ++ A)[H.length + k]? = A[k]? := fun A k => at_hp rfl A k
  have hg0 : ∀ (A : Heap), (H ++ A)[H.length]? = A[0]? := fun A => at_hp rfl A 0
  have hs0 : ∀ (A : Heap) v, (H ++ A).set H.length v = H ++ A.set 0 v := fun A v => set_hp rfl A 0 v
  have ht : ∀ (A : Heap) (k : Nat), (H ++ A).take (H.length + k) = H ++ A.take k := fun A k => take_hp rfl A k
  have ht0 : ∀ (A : Heap), (H ++ A).take H.length = H := fun A => by simp
  simp only [List.cons_append, List.nil_append, Int.cast_ofNat_Int] at hwk
  simp [c_tree_Count, walk_eq, lt_tree_walk, lt_tree_walk_1, hg, hg0, hs0, hwk, ht, recAt, r_tree_Count_0]

/-- A program. -/
structure Pg where
  procs : List (List UInt8 × List Sm)
  main : List Sm
  recover : List Sm
  oracles : List (List UInt8 × Ex)

def Pg.pcells (p : Pg) : List (List V) := p.procs.map fun x => [.str x.1, .sl 7 (Sm.rows x.2)]
def Pg.ocells (p : Pg) : List (List V) := p.oracles.map fun x => .str x.1 :: x.2.cells
def Pg.cells (p : Pg) : List V := [.sl 2 p.pcells, .sl 7 (Sm.rows p.main), .sl 7 (Sm.rows p.recover), .sl 5 p.ocells]
def Pg.psize (p : Pg) : Nat := (p.procs.map fun x => 1 + Sm.sizes x.2).sum
def Pg.osize (p : Pg) : Nat := (p.oracles.map fun x => 1 + x.2.size).sum
def Pg.size (p : Pg) : Nat := p.psize + Sm.sizes p.main + Sm.sizes p.recover + p.osize
def Pg.parts (p : Pg) : List (List Sm) := p.procs.map (·.2) ++ [p.main, p.recover]

def brow (b : List Sm) : List V := [.sl 7 (Sm.rows b)]

theorem parts_loop (call : CallF) (R : Option (V × Heap)) (n : Nat) (H : Heap) (p : Pg) (hl : p.procs.length ≤ 1000) (v1 : V) (k : List Item)
    (hexit : ∀ φ' K, K.take n = H → n ≤ K.length → Fr.get φ' 1 = v1 → Fr.get φ' 3 = .own 1 (p.procs.map fun x => brow x.2) → M call k φ' K = R) :
    ∀ (j i : Nat) (φ : Fr) (K : Heap), i + j = p.procs.length → K.take n = H → n ≤ K.length → Fr.get φ 1 = v1 → Fr.get φ 3 = .own 1 ((p.procs.take i).map fun x => brow x.2) → Fr.get φ 7 = .sl 2 p.pcells → Fr.get φ 8 = .int .i64 p.procs.length → Fr.get φ 9 = .int .i64 i →
      M call (.code l_tree_parts_0 :: .blk 0 :: k) φ K = R := by
  intro j
  induction j with
  | zero =>
    intro i φ K hj hK hn h1 h3 h7 h8 h9
    have hi : ¬ ((i : Int) < p.procs.length) := by omega
    rw [List.take_of_length_le (by omega)] at h3
    rw [l_tree_parts_0, M_loop, ← l_tree_parts_0]
    simp [b_tree_parts_0, h1, h3, h7, h8, h9, hi]
    exact hexit _ _ hK hn (by simp [h1]) (by simp [h3])
  | succ j ih =>
    intro i φ K hj hK hn h1 h3 h7 h8 h9
    have hi : (i : Int) < p.procs.length := by omega
    have hil : i < p.procs.length := by omega
    obtain ⟨e, he⟩ : ∃ e, p.procs[i]? = some e := ⟨p.procs[i], List.getElem?_eq_getElem hil⟩
    have hrow : p.pcells[i]? = some [.str e.1, .sl 7 (Sm.rows e.2)] := by rw [Pg.pcells, List.getElem?_map, he]; rfl
    have hcl : p.pcells.length = p.procs.length := by simp [Pg.pcells]
    have hck : (p.procs.take i).length = i := by simp; omega
    have hnext : ((p.procs.take i).map fun x => brow x.2) ++ [[.sl 7 (Sm.rows e.2)]] = (p.procs.take (i + 1)).map fun x => brow x.2 := by
      rw [List.take_add_one, he]; simp [brow]
    have hw : IntKind.i64.wrap ((i : Int) + 1) = ((i + 1 : Nat) : Int) := by rw [w64 (by omega) (by omega)]; rfl
    have hb : 2 * (i + 1) * 24 ≤ 281474976710656 := by omega
    have hmin : min i p.procs.length = i := by omega
    rw [l_tree_parts_0, M_loop, ← l_tree_parts_0]
    simp [b_tree_parts_0, h1, h3, h7, h8, h9, hi, hrow, hcl, hck, hmin, get0, set0, hnext, hw, hb]
    refine ih (i + 1) _ _ (by omega) (take_more hK hn _) (by simp; omega) (by simp [h1]) (by simpa using hnext) (by simp [h7]) (by simp [h8]) (by simp)

theorem parts_eq (p : Pg) (hl : p.procs.length ≤ 1000) (H : Heap) : eval tbl noExt n_tree_parts [.agg p.cells] H = some (.own 1 (p.parts.map brow), H) := by
  have hcl : p.pcells.length = p.procs.length := by simp [Pg.pcells]
  have hb : 2 * (p.procs.length + 2) * 24 ≤ 281474976710656 := by omega
  rw [eval_M rfl rfl t_tree_parts rfl]
  simp [c_tree_parts, Pg.cells, hcl]
  refine parts_loop _ _ (H.length + 1) (H ++ [some p.cells]) p hl (.ptr H.length 0) _ (fun φ' K hK hn h1 h3 => ?_) p.procs.length 0 _ _ (by omega) ?_ ?_ ?_ ?_ ?_ ?_ ?_
  · have hg : K[H.length]? = some (some p.cells) := by
      have h : (K.take (H.length + 1))[H.length]? = some (some p.cells) := by rw [hK, get0]
      rwa [List.getElem?_take_of_lt (by omega)] at h
    have ht : K.take H.length = H := by
      have h : (K.take (H.length + 1)).take H.length = H := by rw [hK]; simp
      rwa [List.take_take, Nat.min_eq_left (by omega)] at h
    simp [r_tree_parts_0, h1, h3, hg, Pg.cells, hb, ht, Pg.parts, brow]
  all_goals simp [Pg.cells, List.take_of_length_le]


/-- The lists' cell, filled by the rounds of tree.All. -/
theorem all_round (a c : List V) (hc : c = [V.ptr 1 0]) (T : Heap) (b : List (Option (List V))) (hb : b.length = 1) :
    YS (2 + (T.length + 1)) (fun x => some a :: some [V.own 7 (Sm.rows x)] :: (T ++ (b ++ [some [V.lrec 0 0 q_tree_All_0 [16] [3] c]]))) 1000 := by
  subst hc
  intro x s L hs hx
  obtain ⟨b, rfl⟩ := List.length_eq_one_iff.1 hb
  have hl : (T ++ [b]).length = T.length + 1 := by simp
  have hi : 2 + (T.length + 1) = T.length + 1 + 1 + 1 := by omega
  rw [hi]
  have e : ∀ (y : List Sm) (r : List V), (some a :: some [V.own 7 (Sm.rows y)] :: (T ++ ([b] ++ [some r])) ++ L : Heap) = some a :: some [V.own 7 (Sm.rows y)] :: ((T ++ [b]) ++ (some r :: L)) := by simp
  show eval tbl noExt _ _ (some a :: some [V.own 7 (Sm.rows x)] :: (T ++ ([b] ++ [some [V.lrec 0 0 q_tree_All_0 [16] [3] [V.ptr 1 0]]])) ++ L) = some (_, some a :: some [V.own 7 (Sm.rows (x ++ [s]))] :: (T ++ ([b] ++ [some [V.lrec 0 0 q_tree_All_0 [16] [3] [V.ptr 1 0]]])) ++ L)
  rw [e, e]
  generalize hA : T ++ [b] = A at *
  rw [← hl]
  have hg : ∀ (B : Heap), (A ++ B)[A.length]? = B[0]? := fun B => at_hp rfl B 0
  have hs0 : ∀ (B : Heap) v, (A ++ B).set A.length v = A ++ B.set 0 v := fun B v => set_hp rfl B 0 v
  have hg' : ∀ (B : Heap) k, (A ++ B)[A.length + k]? = B[k]? := fun B k => at_hp rfl B k
  have hs' : ∀ (B : Heap) k v, (A ++ B).set (A.length + k) v = A ++ B.set k v := fun B k v => set_hp rfl B k v
  have ht' : ∀ (B : Heap) k, (A ++ B).take (A.length + k) = A ++ B.take k := fun B k => take_hp rfl B k
  have h1 : recAt (some a :: some [V.own 7 (Sm.rows x)] :: (A ++ (some [V.lrec 0 0 q_tree_All_0 [16] [3] [V.ptr 1 0]] :: L))) (A.length + 1 + 1) = some (0, 0, q_tree_All_0, [16], [3], [V.ptr 1 0]) := by
    unfold recAt
    simp [hg]
  rw [eval_Y h1 u_tree_All_0 rfl]
  have hcl : (Sm.rows x).length = x.length := by rw [Sm.rows_eq]; simp
  have hnext : Sm.rows (x ++ [s]) = Sm.rows x ++ [s.cells] := by simp [Sm.rows_eq]
  have hcall := cloned_eq 1000 s (by omega) (Nat.le_refl _) []
  rw [hnext]
  obtain ⟨op, w, n, ee, b1, b2, g⟩ := s
  simp only [Sm.cells] at hcall ⊢
  have hb2 : 2 * (x.length + 1) * 112 ≤ 281474976710656 := by omega
  have hlt : (x.length : Int) < x.length + 1 := by omega
  have hno : (Sm.rows x)[x.length]? = none := by rw [List.getElem?_eq_none_iff, hcl]; exact Nat.le_refl _
  simp [hlt, hno, a_tree_All_0, y_tree_All_0, recAt, hg, hs0, hg', hs', hcl, hcall, hb2, lt_tree_cloned, frzMix, endRound, pendOf, ht']


theorem all_loop (a : List V) (bs : List (List Sm)) (hbs : ∀ b ∈ bs, WalkOK b) (hb2 : bs.length ≤ 1002) (R : Option (V × Heap)) (k : List Item) :
    ∀ (j t : Nat) (x : List Sm) (φ : Fr) (T : Heap), t + j = bs.length → x.length + (Sm.flats (bs.drop t).flatten).length ≤ 1000 → Fr.get φ 3 = .ptr 1 0 → Fr.get φ 8 = .own 1 (bs.map brow) → Fr.get φ 9 = .int .i64 bs.length → Fr.get φ 10 = .int .i64 t →
      (∀ φ' T', Fr.get φ' 3 = .ptr 1 0 → M (eval tbl noExt) k φ' (some a :: some [V.own 7 (Sm.rows (x ++ Sm.flats (bs.drop t).flatten))] :: T') = R) →
      M (eval tbl noExt) (.code l_tree_All_0 :: .blk 0 :: k) φ (some a :: some [V.own 7 (Sm.rows x)] :: T) = R := by
  intro j
  induction j with
  | zero =>
    intro t x φ T hj hN h3 h8 h9 h10 hexit
    have hi : ¬ ((t : Int) < bs.length) := by omega
    rw [List.drop_of_length_le (by omega)] at hexit
    simp only [List.flatten_nil, Sm.flats, List.append_nil] at hexit
    rw [l_tree_All_0, M_loop, ← l_tree_All_0]
    simp [b_tree_All_0, h3, h8, h9, h10, hi]
    exact hexit _ T (by simp [h3])
  | succ j ih =>
    intro t x φ T hj hN h3 h8 h9 h10 hexit
    have hi : (t : Int) < bs.length := by omega
    have hil : t < bs.length := by omega
    obtain ⟨b, hb⟩ : ∃ b, bs[t]? = some b := ⟨bs[t], List.getElem?_eq_getElem hil⟩
    have hmem : b ∈ bs := List.mem_of_getElem? hb
    have hdrop : bs.drop t = b :: bs.drop (t + 1) := by
      rw [List.drop_eq_getElem_cons hil]
      rw [List.getElem?_eq_getElem hil] at hb
      rw [Option.some.inj hb]
    rw [hdrop] at hN hexit
    simp only [List.flatten_cons, Sm.flats_append, List.length_append, ← List.append_assoc] at hN hexit
    have hrow : (bs.map brow)[t]? = some [.sl 7 (Sm.rows b)] := by rw [List.getElem?_map, hb]; rfl
    have hw : IntKind.i64.wrap ((t : Int) + 1) = ((t + 1 : Nat) : Int) := by rw [w64 (by omega) (by omega)]; rfl
    have hys := all_round a [V.ptr 1 0] rfl T [some [V.sl 7 (Sm.rows b)]] rfl
    have hwk := hbs b hmem (2 + (T.length + 1)) (2 + (T.length + 1) + 1) 1000 (T.length + 1 + 1) _ [] x (by intro x; simp only [List.length_append, List.length_cons, List.length_nil]; omega) hys (by
      intro x
      rw [List.append_nil, List.getElem?_cons_succ, List.getElem?_cons_succ, List.getElem?_append_right (Nat.le_refl _), Nat.sub_self]
      rfl) (by omega)
    simp only [List.append_nil] at hwk
    rw [show 2 + (T.length + 1) = T.length + 1 + 1 + 1 by omega] at hwk
    have hread : ∀ y : List Sm, recAt (some a :: some [V.own 7 (Sm.rows y)] :: (T ++ ([some [V.sl 7 (Sm.rows b)]] ++ [some [V.lrec 0 0 q_tree_All_0 [16] [3] [V.ptr 1 0]]]))) (T.length + 1 + 1 + 1) = some (0, 0, q_tree_All_0, [16], [3], [V.ptr 1 0]) := by
      intro y
      unfold recAt
      rw [List.getElem?_cons_succ, List.getElem?_cons_succ, List.getElem?_append_right (by omega)]
      simp [Nat.add_sub_cancel_left]
    have htake : ∀ y : List Sm, (some a :: some [V.own 7 (Sm.rows y)] :: (T ++ ([some [V.sl 7 (Sm.rows b)]] ++ [some [V.lrec 0 0 q_tree_All_0 [16] [3] [V.ptr 1 0]]])) : Heap).take (T.length + 1 + 1 + 1) = some a :: some [V.own 7 (Sm.rows y)] :: (T ++ [some [V.sl 7 (Sm.rows b)]]) := by
      intro y
      rw [List.take_succ_cons, List.take_succ_cons, ← List.append_assoc, List.take_append_of_le_length (by simp), List.take_of_length_le (by simp)]
    simp only [List.cons_append, List.nil_append] at hwk hread htake
    rw [l_tree_All_0, M_loop, ← l_tree_All_0]
    simp [b_tree_All_0, h3, h8, h9, h10, hi, hrow, walk_eq, lt_tree_walk, lt_tree_walk_1, hwk, hread, htake, r_tree_All_0, hw]
    refine ih (t + 1) (x ++ Sm.flats b) _ (T ++ [some [V.sl 7 (Sm.rows b)]]) (by omega) (by simp; omega) (by simp [h3]) (by simp [h8]) (by simp [h9]) (by simp) ?_
    intro φ' T' g3
    have := hexit φ' T' g3
    simpa using this

def Pg.flats (p : Pg) : List Sm := Sm.flats p.parts.flatten

theorem sizes_append (a b : List Sm) : Sm.sizes (a ++ b) = Sm.sizes a + Sm.sizes b := by
  induction a with
  | nil => simp [Sm.sizes]
  | cons e l ih => simp only [List.cons_append, Sm.sizes, ih]; omega

theorem Pg.parts_size (p : Pg) : Sm.sizes p.parts.flatten + p.procs.length ≤ p.size := by
  have h : ∀ l : List (List UInt8 × List Sm), Sm.sizes (l.map (·.2)).flatten + l.length = (l.map fun x => 1 + Sm.sizes x.2).sum := by
    intro l
    induction l with
    | nil => rfl
    | cons x l ih => simp only [List.map_cons, List.flatten_cons, sizes_append, List.length_cons, List.sum_cons]; omega
  have := h p.procs
  simp only [Pg.parts, List.flatten_append, sizes_append, Pg.size, Pg.psize, List.flatten_cons, List.flatten_nil, List.append_nil]
  omega

theorem sizes_flatten {bs : List (List Sm)} {b : List Sm} (h : b ∈ bs) : Sm.sizes b ≤ Sm.sizes bs.flatten := by
  induction bs with
  | nil => simp at h
  | cons x l ih =>
    simp only [List.flatten_cons, sizes_append]
    rcases List.mem_cons.1 h with rfl | h
    · omega
    · have := ih h; omega

theorem All_eq (p : Pg) (hp : p.size ≤ 1000) : eval tbl noExt n_tree_All [.agg p.cells] [] = some (.sl 7 (Sm.rows p.flats), []) := by
  have hsz := p.parts_size
  have hfl := Sm.flats_sizes p.parts.flatten
  have hpl : p.parts.length = p.procs.length + 2 := by simp [Pg.parts]
  have hparts := parts_eq p (by omega) []
  rw [eval_M rfl rfl t_tree_All rfl]
  simp only [Pg.cells] at hparts ⊢
  simp [c_tree_All, hparts, lt_tree_parts]
  refine all_loop p.cells p.parts (fun b hb => walk_ok 1000 b (by have := sizes_flatten hb; omega) (Nat.le_refl _)) (by omega) _ _ p.parts.length 0 [] _ [] (by omega) (by simpa using by omega) ?_ ?_ ?_ ?_ ?_
  · simp
  · simp
  · simp
  · simp
  · intro φ' T' g3
    simp [r_tree_All_1, g3, Pg.flats]

end Go.AM.Spec
