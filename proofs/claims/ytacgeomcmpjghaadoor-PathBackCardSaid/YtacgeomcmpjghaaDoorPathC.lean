/-
  Paths: names joined, parents, one under another; what the program's and the document's functions answer. Printed by a program (mkpathc.py).
-/
import Derived.Test.YtacgeomcmpjghaaDoorPathB
namespace Go.AM.Spec
set_option linter.unusedVariables false
set_option linter.unusedSimpArgs false
set_option maxHeartbeats 1000000
set_option maxRecDepth 10000

/-- Does a list begin with another one? -/
def begins : List (List UInt8) → List (List UInt8) → Bool
  | _, [] => true
  | [], _ :: _ => false
  | a :: l, b :: m => a == b && begins l m
theorem begins_nil (l : List (List UInt8)) : begins l [] = true := by cases l <;> rfl
theorem begins_cons (a b : List UInt8) (l m : List (List UInt8)) : begins (a :: l) (b :: m) = (a == b && begins l m) := rfl
theorem begins_take : ∀ (l m : List (List UInt8)), m.length ≤ l.length → (l.take m.length == m) = begins l m
  | _, [], _ => by simp [begins_nil]
  | [], _ :: _, h => by simp at h
  | a :: l, b :: m, h => by
    simp only [List.length_cons] at h
    rw [begins_cons, ← begins_take l m (by omega)]
    simp only [List.length_cons, List.take_succ_cons, List.cons_beq_cons]


theorem slices_Equal_string_string_loop (l m : List (List UInt8)) (hl : l.length ≤ 1000000) (hm : m.length = l.length) (H : Heap) (call : CallF) (Q : Option (V × Heap) → Prop) (k : List Item)
    (hret : ∀ φ', (l == m) = false → Fr.get φ' 4 = .bool false → Q (retK k φ' H)) (hexit : ∀ φ', (l == m) = true → Q (M call k φ' H)) :
    ∀ (j i : Nat) (φ : Fr), i + j = l.length → (l == m) = (l.drop i == m.drop i) → Fr.get φ 0 = .sl 1 (l.map tx) → Fr.get φ 1 = .sl 1 (m.map tx) → Fr.get φ 12 = .int .i64 l.length → Fr.get φ 13 = .int .i64 i →
      Q (M call (.code l_slices_Equal_string_string_0 :: .blk 0 :: k) φ H) := by
  intro j
  induction j with
  | zero =>
    intro i φ hj hs ha hb hl0 hi0
    have hi : ¬ ((i : Int) < l.length) := by omega
    rw [List.drop_of_length_le (l := l) (i := i) (by omega), List.drop_of_length_le (l := m) (i := i) (by omega)] at hs
    rw [l_slices_Equal_string_string_0, M_loop, ← l_slices_Equal_string_string_0]
    simp [b_slices_Equal_string_string_0, ha, hb, hl0, hi0, hi]
    exact hexit _ (by rw [hs]; simp)
  | succ j ih =>
    intro i φ hj hs ha hb hl0 hi0
    have hi : (i : Int) < l.length := by omega
    have hil : i < l.length := by omega
    have him : i < m.length := by omega
    obtain ⟨a, ea, da⟩ : ∃ a, l[i]? = some a ∧ l.drop i = a :: l.drop (i + 1) := ⟨l[i], List.getElem?_eq_getElem hil, List.drop_eq_getElem_cons hil⟩
    obtain ⟨b, eb, db⟩ : ∃ b, m[i]? = some b ∧ m.drop i = b :: m.drop (i + 1) := ⟨m[i], List.getElem?_eq_getElem him, List.drop_eq_getElem_cons him⟩
    have ra : (l.map tx)[i]? = some [.str a] := by rw [List.getElem?_map, ea]; rfl
    have rb : (m.map tx)[i]? = some [.str b] := by rw [List.getElem?_map, eb]; rfl
    have hw1 : IntKind.i64.wrap ((i : Int) + 1) = ((i + 1 : Nat) : Int) := by rw [w64 (by omega) (by omega)]; rfl
    have hia : (i : Int) < l.length := by omega
    have hib : (i : Int) < m.length := by omega
    rw [da, db, List.cons_beq_cons] at hs
    rw [l_slices_Equal_string_string_0, M_loop, ← l_slices_Equal_string_string_0]
    by_cases hab : a = b
    · subst hab
      rw [beq_self_eq_true, Bool.true_and] at hs
      simp [b_slices_Equal_string_string_0, ha, hb, hl0, hi0, hi, hia, hib, ra, rb, hw1]
      refine ih (i + 1) _ (by omega) hs ?_ ?_ ?_ ?_
      · simp [ha]
      · simp [hb]
      · simp [hl0]
      · simp
    · rw [beq_eq_false_iff_ne.2 hab, Bool.false_and] at hs
      simp [b_slices_Equal_string_string_0, ha, hb, hl0, hi0, hi, hia, hib, ra, rb, hab, hw1]
      exact hret _ hs (by simp)


theorem slices_Equal_string_string_eq (l m : List (List UInt8)) (hl : l.length ≤ 1000000) (H : Heap) : eval tbl noExt n_slices_Equal_string_string [.sl 1 (l.map tx), .sl 1 (m.map tx)] H = some (.bool (l == m), H) := by
  rw [eval_M rfl rfl t_slices_Equal_string_string rfl]
  by_cases hlen : m.length = l.length
  · have hlen' : (l.length : Int) = m.length := by omega
    simp [c_slices_Equal_string_string, hlen']
    refine slices_Equal_string_string_loop l m hl hlen H _ (fun o => o = some (.bool (l == m), H)) _ (fun φ' h g => ?_) (fun φ' h => ?_) l.length 0 _ (by omega) rfl ?_ ?_ ?_ ?_
    · rw [h]; simp [g]
    · rw [h]; simp [r_slices_Equal_string_string_0]
    all_goals simp [hlen]
  · have hlen' : ¬ (l.length : Int) = m.length := by omega
    have : (l == m) = false := beq_eq_false_iff_ne.2 (by rintro rfl; exact hlen rfl)
    rw [this]
    simp [c_slices_Equal_string_string, hlen']


theorem flotsamlaw08_Texts_loop (l m : List (List UInt8)) (hl : l.length ≤ 1000000) (hm : m.length = l.length) (H : Heap) (call : CallF) (Q : Option (V × Heap) → Prop) (k : List Item)
    (hret : ∀ φ', (l == m) = false → Fr.get φ' 4 = .bool false → Q (retK k φ' H)) (hexit : ∀ φ', (l == m) = true → Q (M call k φ' H)) :
    ∀ (j i : Nat) (φ : Fr), i + j = l.length → (l == m) = (l.drop i == m.drop i) → Fr.get φ 0 = .sl 1 (l.map tx) → Fr.get φ 1 = .sl 1 (m.map tx) → Fr.get φ 5 = .int .i64 i →
      Q (M call (.code l_flotsamlaw08_Texts_0 :: .blk 0 :: k) φ H) := by
  intro j
  induction j with
  | zero =>
    intro i φ hj hs ha hb hi0
    have hi : ¬ ((i : Int) < l.length) := by omega
    rw [List.drop_of_length_le (l := l) (i := i) (by omega), List.drop_of_length_le (l := m) (i := i) (by omega)] at hs
    rw [l_flotsamlaw08_Texts_0, M_loop, ← l_flotsamlaw08_Texts_0]
    simp [b_flotsamlaw08_Texts_0, ha, hb, hi0, hi]
    exact hexit _ (by rw [hs]; simp)
  | succ j ih =>
    intro i φ hj hs ha hb hi0
    have hi : (i : Int) < l.length := by omega
    have hil : i < l.length := by omega
    have him : i < m.length := by omega
    obtain ⟨a, ea, da⟩ : ∃ a, l[i]? = some a ∧ l.drop i = a :: l.drop (i + 1) := ⟨l[i], List.getElem?_eq_getElem hil, List.drop_eq_getElem_cons hil⟩
    obtain ⟨b, eb, db⟩ : ∃ b, m[i]? = some b ∧ m.drop i = b :: m.drop (i + 1) := ⟨m[i], List.getElem?_eq_getElem him, List.drop_eq_getElem_cons him⟩
    have ra : (l.map tx)[i]? = some [.str a] := by rw [List.getElem?_map, ea]; rfl
    have rb : (m.map tx)[i]? = some [.str b] := by rw [List.getElem?_map, eb]; rfl
    have hw1 : IntKind.i64.wrap ((i : Int) + 1) = ((i + 1 : Nat) : Int) := by rw [w64 (by omega) (by omega)]; rfl
    have hia : (i : Int) < l.length := by omega
    have hib : (i : Int) < m.length := by omega
    rw [da, db, List.cons_beq_cons] at hs
    rw [l_flotsamlaw08_Texts_0, M_loop, ← l_flotsamlaw08_Texts_0]
    by_cases hab : a = b
    · subst hab
      rw [beq_self_eq_true, Bool.true_and] at hs
      simp [b_flotsamlaw08_Texts_0, ha, hb, hi0, hi, hia, hib, ra, rb, hw1]
      refine ih (i + 1) _ (by omega) hs ?_ ?_ ?_
      · simp [ha]
      · simp [hb]
      · simp
    · rw [beq_eq_false_iff_ne.2 hab, Bool.false_and] at hs
      simp [b_flotsamlaw08_Texts_0, ha, hb, hi0, hi, hia, hib, ra, rb, hab, hw1]
      exact hret _ hs (by simp)


theorem flotsamlaw08_Texts_eq (l m : List (List UInt8)) (hl : l.length ≤ 1000000) (H : Heap) : eval tbl noExt n_flotsamlaw08_Texts [.sl 1 (l.map tx), .sl 1 (m.map tx)] H = some (.bool (l == m), H) := by
  rw [eval_M rfl rfl t_flotsamlaw08_Texts rfl]
  by_cases hlen : m.length = l.length
  · have hlen' : (l.length : Int) = m.length := by omega
    simp [c_flotsamlaw08_Texts, hlen']
    refine flotsamlaw08_Texts_loop l m hl hlen H _ (fun o => o = some (.bool (l == m), H)) _ (fun φ' h g => ?_) (fun φ' h => ?_) l.length 0 _ (by omega) rfl ?_ ?_ ?_
    · rw [h]; simp [g]
    · rw [h]; simp [r_flotsamlaw08_Texts_0]
    all_goals simp [hlen]
  · have hlen' : ¬ (l.length : Int) = m.length := by omega
    have : (l == m) = false := beq_eq_false_iff_ne.2 (by rintro rfl; exact hlen rfl)
    rw [this]
    simp [c_flotsamlaw08_Texts, hlen']


theorem flotsamref08_Under_loop (l m : List (List UInt8)) (hl : l.length ≤ 1000000) (hm : m.length ≤ l.length) (H : Heap) (call : CallF) (Q : Option (V × Heap) → Prop) (k : List Item)
    (hret : ∀ φ', begins l m = false → Fr.get φ' 4 = .bool false → Q (retK k φ' H)) (hexit : ∀ φ', begins l m = true → Q (M call k φ' H)) :
    ∀ (j i : Nat) (φ : Fr), i + j = m.length → begins l m = begins (l.drop i) (m.drop i) → Fr.get φ 5 = .sl 1 (l.map tx) → Fr.get φ 7 = .sl 1 (m.map tx) → Fr.get φ 9 = .int .i64 i →
      Q (M call (.code l_flotsamref08_Under_0 :: .blk 0 :: k) φ H) := by
  intro j
  induction j with
  | zero =>
    intro i φ hj hs ha hb hi0
    have hi : ¬ ((i : Int) < m.length) := by omega
    rw [List.drop_of_length_le (l := m) (i := i) (by omega), begins_nil] at hs
    rw [l_flotsamref08_Under_0, M_loop, ← l_flotsamref08_Under_0]
    simp [b_flotsamref08_Under_0, ha, hb, hi0, hi]
    exact hexit _ hs
  | succ j ih =>
    intro i φ hj hs ha hb hi0
    have hi : (i : Int) < m.length := by omega
    have hil : i < l.length := by omega
    have him : i < m.length := by omega
    obtain ⟨a, ea, da⟩ : ∃ a, l[i]? = some a ∧ l.drop i = a :: l.drop (i + 1) := ⟨l[i], List.getElem?_eq_getElem hil, List.drop_eq_getElem_cons hil⟩
    obtain ⟨b, eb, db⟩ : ∃ b, m[i]? = some b ∧ m.drop i = b :: m.drop (i + 1) := ⟨m[i], List.getElem?_eq_getElem him, List.drop_eq_getElem_cons him⟩
    have ra : (l.map tx)[i]? = some [.str a] := by rw [List.getElem?_map, ea]; rfl
    have rb : (m.map tx)[i]? = some [.str b] := by rw [List.getElem?_map, eb]; rfl
    have hw1 : IntKind.i64.wrap ((i : Int) + 1) = ((i + 1 : Nat) : Int) := by rw [w64 (by omega) (by omega)]; rfl
    have hia : (i : Int) < l.length := by omega
    have hib : (i : Int) < m.length := by omega
    rw [da, db, begins_cons] at hs
    rw [l_flotsamref08_Under_0, M_loop, ← l_flotsamref08_Under_0]
    by_cases hab : a = b
    · subst hab
      rw [beq_self_eq_true, Bool.true_and] at hs
      simp [b_flotsamref08_Under_0, ha, hb, hi0, hi, hia, hib, ra, rb, hw1]
      refine ih (i + 1) _ (by omega) hs ?_ ?_ ?_
      · simp [ha]
      · simp [hb]
      · simp
    · rw [beq_eq_false_iff_ne.2 hab, Bool.false_and] at hs
      simp [b_flotsamref08_Under_0, ha, hb, hi0, hi, hia, hib, ra, rb, hab, hw1]
      exact hret _ hs (by simp)


/-- Names, joined. -/
def joinP (l : List (List UInt8)) : List UInt8 := 47 :: Go.Lib.join l [47]
def Shorts (l : List (List UInt8)) : Prop := l.length ≤ 1000 ∧ ∀ w ∈ l, w.length ≤ 1000

theorem join_cons2 (x y : List UInt8) (r : List (List UInt8)) : Go.Lib.join (x :: y :: r) [47] = x ++ 47 :: Go.Lib.join (y :: r) [47] := by
  rw [Go.Lib.join_cons, Go.Lib.join_cons]
  simp [Go.Lib.joinTail]
theorem join_len : ∀ l : List (List UInt8), (∀ w ∈ l, w.length ≤ 1000) → (Go.Lib.join l [47]).length ≤ 1001 * l.length
  | [], _ => by simp [Go.Lib.join_nil]
  | [x], h => by rw [Go.Lib.join_one]; have := h x (by simp); simp; omega
  | x :: y :: r, h => by
    have ih := join_len (y :: r) (fun w hw => h w (by simp at hw ⊢; right; exact hw))
    have := h x (by simp)
    rw [join_cons2]
    simp only [List.length_append, List.length_cons] at ih ⊢
    omega

theorem Join_eq (l : List (List UInt8)) (h : Shorts l) (H : Heap) : eval tbl noExt n_path_Join [.sl 1 (l.map tx)] H = some (.str (joinP l), H) := by
  have hlen := join_len l h.2
  have h1 := h.1
  have hs : ∀ K, eval tbl noExt n_strings_Join [.sl 1 (l.map tx), .str [47]] K = some (.str (Go.Lib.join l [47]), K) := by
    intro K
    rw [eval_X rfl rfl]
    simp only [xJoin, textsOf_map]
    rw [if_pos ⟨by omega, by omega⟩]
  have hb : 1 + (Go.Lib.join l [47]).length < 4611686018427387904 := by omega
  have hb2 : (Go.Lib.join l [47]).length + 1 < 4611686018427387904 := by omega
  rw [eval_M rfl rfl t_path_Join rfl]
  simp [c_path_Join, hs, lt_strings_Join, hb, hb2, joinP]

/-- Each name behind a slash. -/
def slashed (l : List (List UInt8)) : List UInt8 := (l.map (47 :: ·)).flatten
theorem slashed_eq : ∀ l : List (List UInt8), l ≠ [] → slashed l = joinP l
  | [], h => absurd rfl h
  | [x], _ => by simp [slashed, joinP, Go.Lib.join_one]
  | x :: y :: r, _ => by
    have ih := slashed_eq (y :: r) (by simp)
    unfold joinP at ih ⊢
    rw [join_cons2, ← ih]
    simp [slashed]
theorem slashed_len (l : List (List UInt8)) (h : ∀ w ∈ l, w.length ≤ 1000) : (slashed l).length ≤ 1001 * l.length := by
  induction l with
  | nil => simp [slashed]
  | cons x l ih =>
    have := h x (by simp)
    have ih := ih (fun w hw => h w (by simp [hw]))
    simp only [slashed, List.map_cons, List.flatten_cons, List.length_append, List.length_cons] at ih ⊢
    omega

theorem refJoin_loop (l : List (List UInt8)) (h : Shorts l) (H : Heap) (call : CallF) (Q : Option (V × Heap) → Prop) (k : List Item)
    (hexit : ∀ φ', Fr.get φ' 0 = .sl 1 (l.map tx) → Fr.get φ' 3 = .str (slashed l) → Q (M call k φ' H)) :
    ∀ (j i : Nat) (φ : Fr), i + j = l.length → Fr.get φ 0 = .sl 1 (l.map tx) → Fr.get φ 3 = .str (slashed (l.take i)) → Fr.get φ 4 = .int .i64 i →
      Q (M call (.code l_flotsamref08_Join_0 :: .blk 0 :: k) φ H) := by
  have hl := h.1
  intro j
  induction j with
  | zero =>
    intro i φ hj h0 h3 h4
    have hi : ¬ ((i : Int) < l.length) := by omega
    rw [List.take_of_length_le (by omega)] at h3
    rw [l_flotsamref08_Join_0, M_loop, ← l_flotsamref08_Join_0]
    simp [b_flotsamref08_Join_0, h0, h3, h4, hi]
    exact hexit _ (by simp [h0]) (by simp [h3])
  | succ j ih =>
    intro i φ hj h0 h3 h4
    have hi : (i : Int) < l.length := by omega
    have hil : i < l.length := by omega
    obtain ⟨a, ea⟩ : ∃ a, l[i]? = some a := ⟨l[i], List.getElem?_eq_getElem hil⟩
    have hmem : a ∈ l := List.mem_of_getElem? ea
    have ra : (l.map tx)[i]? = some [.str a] := by rw [List.getElem?_map, ea]; rfl
    have hw1 : IntKind.i64.wrap ((i : Int) + 1) = ((i + 1 : Nat) : Int) := by rw [w64 (by omega) (by omega)]; rfl
    have hs1 := slashed_len (l.take i) (fun w hw => h.2 w (List.mem_of_mem_take hw))
    have hal := h.2 a hmem
    have htl : (l.take i).length ≤ 1000 := by rw [List.length_take]; omega
    have b1 : (slashed (l.take i)).length + 1 < 4611686018427387904 := by omega
    have b2 : (slashed (l.take i)).length + 1 + a.length < 4611686018427387904 := by omega
    have b3 : (slashed (l.take i)).length + (a.length + 1) < 4611686018427387904 := by omega
    have hnext : slashed (l.take i) ++ 47 :: a = slashed (l.take (i + 1)) := by
      rw [List.take_add_one, ea]
      simp [slashed]
    rw [l_flotsamref08_Join_0, M_loop, ← l_flotsamref08_Join_0]
    simp [b_flotsamref08_Join_0, h0, h3, h4, hi, ra, hw1, b1, b2, b3]
    refine ih (i + 1) _ (by omega) ?_ ?_ ?_
    · simp [h0]
    · simp [hnext]
    · simp

theorem refJoin_eq (l : List (List UInt8)) (h : Shorts l) (H : Heap) : eval tbl noExt n_flotsamref08_Join [.sl 1 (l.map tx)] H = some (.str (joinP l), H) := by
  rw [eval_M rfl rfl t_flotsamref08_Join rfl]
  simp [c_flotsamref08_Join]
  refine refJoin_loop l h H _ (fun o => o = some (.str (joinP l), H)) _ (fun φ' g0 g3 => ?_) l.length 0 _ (by omega) ?_ ?_ ?_
  · by_cases hn : l = []
    · subst hn
      simp [r_flotsamref08_Join_0, g0, g3, joinP, Go.Lib.join_nil]
    · have hp := List.length_pos_iff.2 hn
      rw [slashed_eq l hn] at g3
      simp [r_flotsamref08_Join_0, g0, g3, hn]
  all_goals simp [slashed]

theorem splitP_shorts (p : List UInt8) (hp : p.length ≤ 1000) : Shorts (splitP p).1 := by
  unfold splitP
  split
  · exact ⟨by simp, by simp⟩
  · split
    · rename_i c r h0
      split
      · rename_i h
        refine ⟨by simp only; omega, fun w hw => ?_⟩
        have := splitOn_mem 47 r w hw
        simp at hp; omega
      · exact ⟨by simp, by simp⟩
    · exact ⟨by simp, by simp⟩
theorem Shorts.take {l : List (List UInt8)} (h : Shorts l) (n : Nat) : Shorts (l.take n) :=
  ⟨by rw [List.length_take]; have := h.1; omega, fun w hw => h.2 w (List.mem_of_mem_take hw)⟩
theorem splitP_err (p : List UInt8) : (splitP p).2 = 0 ∨ (splitP p).1 = [] ∧ (splitP p).2 = 9 := by
  unfold splitP
  split
  · exact .inl rfl
  · split
    · split
      · exact .inl rfl
      · exact .inr ⟨rfl, rfl⟩
    · exact .inr ⟨rfl, rfl⟩

/-- A path's parent, and its last name. -/
def parentV (p : List UInt8) : V :=
  if (splitP p).2 ≠ 0 then .tup [.str [], .str [], .int .i64 (splitP p).2]
  else if (splitP p).1 = [] then .tup [.str [], .str [], .int .i64 1]
  else .tup [.str (joinP ((splitP p).1.take ((splitP p).1.length - 1))), .str (((splitP p).1[(splitP p).1.length - 1]?).getD []), .int .i64 0]

theorem Parent_eq (p : List UInt8) (hp : p.length ≤ 1000) (H : Heap) : eval tbl noExt n_path_Parent [.str p] H = some (parentV p, H) := by
  have hs := Split_eq p (by omega)
  have hsh := splitP_shorts p hp
  unfold parentV
  unfold splitV at hs
  generalize (splitP p).1 = l at hs hsh ⊢
  generalize (splitP p).2 = e at hs ⊢
  rw [eval_M rfl rfl t_path_Parent rfl]
  by_cases he : e = 0
  case neg => simp [c_path_Parent, hs, lt_path_Split, he]
  by_cases hn : l = []
  · simp [c_path_Parent, hs, lt_path_Split, he, hn]
  have hpos := List.length_pos_iff.2 hn
  have hl := hsh.1
  obtain ⟨n, hn1⟩ : ∃ n, l.length = n + 1 := ⟨l.length - 1, by omega⟩
  obtain ⟨x, ex⟩ : ∃ x, l[n]? = some x := ⟨l[n]'(by omega), List.getElem?_eq_getElem (by omega)⟩
  have rx : (l.map tx)[n]? = some [.str x] := by rw [List.getElem?_map, ex]; rfl
  have hw : IntKind.i64.wrap (n : Int) = n := w64 (by omega) (by omega)
  have hJ := Join_eq (l.take n) (hsh.take n)
  simp only [List.map_take] at hJ
  have c1 : (n : Int) ≤ (n : Int) + 1 := by omega
  have c2 : (n : Int) < (n : Int) + 1 := by omega
  have c3 : ¬ ((n : Int) + 1 = 0) := by omega
  simp [c_path_Parent, hs, lt_path_Split, he, hn, hn1, hw, c1, c2, c3, hJ, lt_path_Join, rx, ex, tx]

theorem refParent_eq (p : List UInt8) (hp : p.length ≤ 1000) (H : Heap) : eval tbl noExt n_flotsamref08_Parent [.str p] H = some (parentV p, H) := by
  have hs := refSplit_eq p (by omega)
  have hsh := splitP_shorts p hp
  unfold parentV
  unfold splitV at hs
  generalize (splitP p).1 = l at hs hsh ⊢
  generalize (splitP p).2 = e at hs ⊢
  rw [eval_M rfl rfl t_flotsamref08_Parent rfl]
  by_cases he : e = 0
  case neg => simp [c_flotsamref08_Parent, hs, lt_flotsamref08_Split, he]
  by_cases hn : l = []
  · simp [c_flotsamref08_Parent, hs, lt_flotsamref08_Split, he, hn]
  have hpos := List.length_pos_iff.2 hn
  have hl := hsh.1
  obtain ⟨n, hn1⟩ : ∃ n, l.length = n + 1 := ⟨l.length - 1, by omega⟩
  obtain ⟨x, ex⟩ : ∃ x, l[n]? = some x := ⟨l[n]'(by omega), List.getElem?_eq_getElem (by omega)⟩
  have rx : (l.map tx)[n]? = some [.str x] := by rw [List.getElem?_map, ex]; rfl
  have hw : IntKind.i64.wrap (n : Int) = n := w64 (by omega) (by omega)
  have hJ := refJoin_eq (l.take n) (hsh.take n)
  simp only [List.map_take] at hJ
  have c1 : (n : Int) ≤ (n : Int) + 1 := by omega
  have c2 : (n : Int) < (n : Int) + 1 := by omega
  have c3 : ¬ ((n : Int) + 1 = 0) := by omega
  simp [c_flotsamref08_Parent, hs, lt_flotsamref08_Split, he, hn, hn1, hw, c1, c2, c3, hJ, lt_flotsamref08_Join, rx, ex, tx]

def underP (p q : List UInt8) : Bool := decide ((splitP p).2 = 0) && (decide ((splitP q).2 = 0) && (decide ((splitP q).1.length ≤ (splitP p).1.length) && begins (splitP p).1 (splitP q).1))

theorem Under_eq (p q : List UInt8) (hp : p.length ≤ 1000000 / 10) (hq : q.length ≤ 1000000 / 10) (H : Heap) : eval tbl noExt n_path_Under [.str p, .str q] H = some (.bool (underP p q), H) := by
  have h1 := Split_eq p (by omega)
  have h2 := Split_eq q (by omega)
  have hlen : (splitP p).1.length ≤ 1000 := by
    unfold splitP; split
    · simp
    · split
      · split
        · rename_i h; simp only; omega
        · simp
      · simp
  unfold underP
  unfold splitV at h1 h2
  generalize (splitP p).1 = l at h1 hlen ⊢
  generalize (splitP p).2 = e at h1 ⊢
  generalize (splitP q).1 = m at h2 ⊢
  generalize (splitP q).2 = f at h2 ⊢
  have hE := slices_Equal_string_string_eq (l.take m.length) m (by rw [List.length_take]; omega)
  simp only [List.map_take] at hE
  rw [eval_M rfl rfl t_path_Under rfl]
  by_cases he : e = 0
  case neg => simp [c_path_Under, h1, h2, lt_path_Split, he]
  by_cases hf : f = 0
  case neg => simp [c_path_Under, h1, h2, lt_path_Split, he, hf]
  by_cases hlm : m.length ≤ l.length
  · have hlm' : (m.length : Int) ≤ l.length := by omega
    rw [begins_take l m hlm] at hE
    simp [c_path_Under, h1, h2, lt_path_Split, he, hf, hlm, hlm', hE, lt_slices_Equal_string_string]
  · have hlm' : ¬ (m.length : Int) ≤ l.length := by omega
    simp [c_path_Under, h1, h2, lt_path_Split, he, hf, hlm, hlm']

theorem refUnder_eq (p q : List UInt8) (hp : p.length ≤ 1000000 / 10) (hq : q.length ≤ 1000000 / 10) (H : Heap) : eval tbl noExt n_flotsamref08_Under [.str p, .str q] H = some (.bool (underP p q), H) := by
  have h1 := refSplit_eq p (by omega)
  have h2 := refSplit_eq q (by omega)
  have hlen : (splitP p).1.length ≤ 1000 := by
    unfold splitP; split
    · simp
    · split
      · split
        · rename_i h; simp only; omega
        · simp
      · simp
  unfold underP
  unfold splitV at h1 h2
  generalize (splitP p).1 = l at h1 hlen ⊢
  generalize (splitP p).2 = e at h1 ⊢
  generalize (splitP q).1 = m at h2 ⊢
  generalize (splitP q).2 = f at h2 ⊢
  rw [eval_M rfl rfl t_flotsamref08_Under rfl]
  by_cases he : e = 0
  case neg => simp [c_flotsamref08_Under, h1, h2, lt_flotsamref08_Split, he]
  by_cases hf : f = 0
  case neg => simp [c_flotsamref08_Under, h1, h2, lt_flotsamref08_Split, he, hf]
  by_cases hlm : m.length ≤ l.length
  · have hlm' : ¬ (l.length : Int) < m.length := by omega
    subst he hf
    generalize hb : begins l m = b
    simp [c_flotsamref08_Under, h1, h2, lt_flotsamref08_Split, hlm']
    refine flotsamref08_Under_loop l m (by omega) hlm H _ (fun o => o = _) _ (fun φ' h g => ?_) (fun φ' h => ?_) m.length 0 _ (by omega) rfl ?_ ?_ ?_
    · rw [hb] at h; simp [g, h]
    · rw [hb] at h; simp [r_flotsamref08_Under_0, h, hlm]
    all_goals simp
  · have hlm' : (l.length : Int) < m.length := by omega
    simp [c_flotsamref08_Under, h1, h2, lt_flotsamref08_Split, he, hf, hlm, hlm']

theorem num8 (n : Int) (H : Heap) : eval tbl noExt n_flotsamlaw08_num [.int .i64 n] H = some (.int .i64 n, H) := by
  rw [eval_M rfl rfl t_flotsamlaw08_num rfl]
  simp [c_flotsamlaw08_num]

theorem knows8 : eval tbl noExt n_flotsamlaw08_knows [] [] = some (.bool true, []) := (eval_iff _ _ _ _ _ _).2 ⟨1000, by kernel_rfl⟩

end Go.AM.Spec
