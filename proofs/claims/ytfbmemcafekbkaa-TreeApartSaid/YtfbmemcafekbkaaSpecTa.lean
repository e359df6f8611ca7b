/-
  The parts of this proof that speak of the functions one by one.
-/
import Derived.Test.YtfbmemcafekbkaaSpc
import Derived.Test.YtfbmemcafekbkaaOpX
namespace Go.AM.Spec
set_option linter.unusedVariables false
set_option linter.unusedSimpArgs false
set_option maxHeartbeats 1000000

inductive Ex where
  | mk (op n : Int) (s : List UInt8) (x : List Ex)

inductive Sm where
  | mk (op : Int) (s : List UInt8) (n : Int) (e : List Ex) (body els : List Sm) (commit : Bool)

mutual
def Ex.cells : Ex → List V
  | .mk op n s x => [.int .i64 op, .int .i64 n, .str s, .sl 4 (Ex.rows x)]
def Ex.rows : List Ex → List (List V)
  | [] => []
  | e :: l => e.cells :: Ex.rows l
end

mutual
def Sm.cells : Sm → List V
  | .mk op s n e b c k => [.int .i64 op, .str s, .int .i64 n, .sl 4 (Ex.rows e), .sl 7 (Sm.rows b), .sl 7 (Sm.rows c), .bool k]
def Sm.rows : List Sm → List (List V)
  | [] => []
  | e :: l => e.cells :: Sm.rows l
end

theorem Ex.rows_eq (l : List Ex) : Ex.rows l = l.map Ex.cells := by induction l with
  | nil => rfl
  | cons e l ih => simp [Ex.rows, ih]
theorem Sm.rows_eq (l : List Sm) : Sm.rows l = l.map Sm.cells := by induction l with
  | nil => rfl
  | cons e l ih => simp [Sm.rows, ih]

mutual
/-- How many expressions. -/
def Ex.size : Ex → Nat
  | .mk _ _ _ x => 1 + Ex.sizes x
def Ex.sizes : List Ex → Nat
  | [] => 0
  | e :: l => e.size + Ex.sizes l
end

mutual
def Sm.size : Sm → Nat
  | .mk _ _ _ e b c _ => 1 + Ex.sizes e + Sm.sizes b + Sm.sizes c
def Sm.sizes : List Sm → Nat
  | [] => 0
  | e :: l => e.size + Sm.sizes l
end

theorem Ex.sizes_ge : ∀ l : List Ex, l.length ≤ Ex.sizes l
  | [] => Nat.le_refl _
  | e :: l => by
    have := Ex.sizes_ge l
    cases e
    simp only [Ex.sizes, Ex.size, List.length_cons]; omega
theorem Sm.sizes_ge : ∀ l : List Sm, l.length ≤ Sm.sizes l
  | [] => Nat.le_refl _
  | e :: l => by
    have := Sm.sizes_ge l
    cases e
    simp only [Sm.sizes, Sm.size, List.length_cons]; omega
theorem Ex.sizes_mem : ∀ {l : List Ex} {e : Ex}, e ∈ l → e.size ≤ Ex.sizes l
  | [], _, h => by simp at h
  | x :: l, e, h => by
    simp only [Ex.sizes]
    rcases List.mem_cons.1 h with rfl | h
    · omega
    · have := Ex.sizes_mem h; omega
theorem Sm.sizes_mem : ∀ {l : List Sm} {e : Sm}, e ∈ l → e.size ≤ Sm.sizes l
  | [], _, h => by simp at h
  | x :: l, e, h => by
    simp only [Sm.sizes]
    rcases List.mem_cons.1 h with rfl | h
    · omega
    · have := Sm.sizes_mem h; omega

end Go.AM.Spec

namespace Go.AM.Spec
set_option linter.unusedVariables false
set_option linter.unusedSimpArgs false
set_option maxHeartbeats 1000000

mutual
/-- A statement, and those in it. -/
def Sm.flat : Sm → List Sm
  | .mk op s n e b c k => .mk op s n e b c k :: (Sm.flats b ++ Sm.flats c)
def Sm.flats : List Sm → List Sm
  | [] => []
  | e :: l => e.flat ++ Sm.flats l
end

theorem Sm.flats_append (a b : List Sm) : Sm.flats (a ++ b) = Sm.flats a ++ Sm.flats b := by
  induction a with
  | nil => rfl
  | cons e l ih => simp [Sm.flats, ih]

mutual
theorem Sm.flat_size : ∀ e : Sm, e.flat.length ≤ e.size
  | .mk op s n e b c k => by
    have := Sm.flats_sizes b
    have := Sm.flats_sizes c
    simp only [Sm.flat, Sm.size, List.length_cons, List.length_append]; omega
theorem Sm.flats_sizes : ∀ l : List Sm, (Sm.flats l).length ≤ Sm.sizes l
  | [] => Nat.le_refl _
  | e :: l => by
    have := Sm.flat_size e
    have := Sm.flats_sizes l
    simp only [Sm.flats, Sm.sizes, List.length_append]; omega
end

mutual
theorem Sm.flat_mem : ∀ (e x : Sm), x ∈ e.flat → x.size ≤ e.size
  | .mk op s n e b c k, x, h => by
    simp only [Sm.flat, List.mem_cons, List.mem_append] at h
    rcases h with rfl | h | h
    · exact Nat.le_refl _
    · have := Sm.flats_mem b x h; simp only [Sm.size]; omega
    · have := Sm.flats_mem c x h; simp only [Sm.size]; omega
theorem Sm.flats_mem : ∀ (l : List Sm) (x : Sm), x ∈ Sm.flats l → x.size ≤ Sm.sizes l
  | [], _, h => by simp [Sm.flats] at h
  | e :: l, x, h => by
    simp only [Sm.flats, List.mem_append] at h
    simp only [Sm.sizes]
    rcases h with h | h
    · have := Sm.flat_mem e x h; omega
    · have := Sm.flats_mem l x h; omega
end

theorem at_hp {hp : Heap} {m : Nat} (h : hp.length = m) (L : Heap) (k : Nat) : (hp ++ L)[m + k]? = L[k]? := by
  rw [List.getElem?_append_right (by omega)]; congr 1; omega
theorem set_hp {hp : Heap} {m : Nat} (h : hp.length = m) (L : Heap) (k : Nat) (v : Option (List V)) : (hp ++ L).set (m + k) v = hp ++ L.set k v := by
  rw [List.set_append_right _ _ (by omega)]; congr 2; omega
theorem take_hp {hp : Heap} {m : Nat} (h : hp.length = m) (L : Heap) (k : Nat) : (hp ++ L).take (m + k) = hp ++ L.take k := by
  rw [List.take_append, List.take_of_length_le (by omega)]; congr 2; omega

/-- The blocks in a statement. -/
def Sm.blocks : Sm → List (List Sm)
  | .mk _ _ _ _ b c _ => [b, c]

/-- A program. -/
structure Pg where
  procs : List (List UInt8 × List Sm)
  main : List Sm
  recover : List Sm
  oracles : List (List UInt8 × Ex)

def Pg.pcells (p : Pg) : List (List V) := p.procs.map fun x => [.str x.1, .sl 7 (Sm.rows x.2)]
def Pg.ocells (p : Pg) : List (List V) := p.oracles.map fun x => .str x.1 :: x.2.cells
def Pg.cells (p : Pg) : List V := [.sl 2 p.pcells, .sl 7 (Sm.rows p.main), .sl 7 (Sm.rows p.recover), .sl 5 p.ocells]
def Pg.psize (p : Pg) : Nat := (p.procs.map fun x => 1 + Sm.sizes x.2).sum
def Pg.osize (p : Pg) : Nat := (p.oracles.map fun x => 1 + x.2.size).sum
def Pg.size (p : Pg) : Nat := p.psize + Sm.sizes p.main + Sm.sizes p.recover + p.osize
def Pg.parts (p : Pg) : List (List Sm) := p.procs.map (·.2) ++ [p.main, p.recover]

def brow (b : List Sm) : List V := [.sl 7 (Sm.rows b)]

def Pg.flats (p : Pg) : List Sm := Sm.flats p.parts.flatten

theorem sizes_append (a b : List Sm) : Sm.sizes (a ++ b) = Sm.sizes a + Sm.sizes b := by
  induction a with
  | nil => simp [Sm.sizes]
  | cons e l ih => simp only [List.cons_append, Sm.sizes, ih]; omega

theorem Pg.parts_size (p : Pg) : Sm.sizes p.parts.flatten + p.procs.length ≤ p.size := by
  have h : ∀ l : List (List UInt8 × List Sm), Sm.sizes (l.map (·.2)).flatten + l.length = (l.map fun x => 1 + Sm.sizes x.2).sum := by
    intro l
    induction l with
    | nil => rfl
    | cons x l ih => simp only [List.map_cons, List.flatten_cons, sizes_append, List.length_cons, List.sum_cons]; omega
  have := h p.procs
  simp only [Pg.parts, List.flatten_append, sizes_append, Pg.size, Pg.psize, List.flatten_cons, List.flatten_nil, List.append_nil]
  omega

theorem sizes_flatten {bs : List (List Sm)} {b : List Sm} (h : b ∈ bs) : Sm.sizes b ≤ Sm.sizes bs.flatten := by
  induction bs with
  | nil => simp at h
  | cons x l ih =>
    simp only [List.flatten_cons, sizes_append]
    rcases List.mem_cons.1 h with rfl | h
    · omega
    · have := ih h; omega

theorem Pg.prow {p : Pg} {i : Nat} {e : List UInt8 × List Sm} (he : p.procs[i]? = some e) : p.pcells[i]? = some [.str e.1, .sl 7 (Sm.rows e.2)] := by rw [Pg.pcells, List.getElem?_map, he]; rfl
theorem Pg.pcells_len (p : Pg) : p.pcells.length = p.procs.length := by simp [Pg.pcells]
theorem Pg.ocells_len (p : Pg) : p.ocells.length = p.oracles.length := by simp [Pg.ocells]

def Sm.op : Sm → Int
  | .mk op _ _ _ _ _ _ => op

mutual
/-- Are two the same? -/
def Ex.same : Ex → Ex → Bool
  | .mk op n s x, .mk op' n' s' x' => op == op' && n == n' && s == s' && Ex.sames x x'
def Ex.sames : List Ex → List Ex → Bool
  | [], [] => true
  | a :: l, b :: m => a.same b && Ex.sames l m
  | _, _ => false
end

mutual
def Sm.same : Sm → Sm → Bool
  | .mk op s n e b c k, .mk op' s' n' e' b' c' k' => op == op' && s == s' && n == n' && k == k' && Ex.sames e e' && Sm.sames b b' && Sm.sames c c'
def Sm.sames : List Sm → List Sm → Bool
  | [], [] => true
  | a :: l, b :: m => a.same b && Sm.sames l m
  | _, _ => false
end

theorem Ex.sames_len {l m : List Ex} (h : l.length ≠ m.length) : Ex.sames l m = false := by
  induction l generalizing m with
  | nil => cases m with
    | nil => simp at h
    | cons => rfl
  | cons a l ih => cases m with
    | nil => rfl
    | cons b m => simp only [Ex.sames, ih (m := m) (fun e => h (by simp [e])), Bool.and_false]
theorem Sm.sames_len {l m : List Sm} (h : l.length ≠ m.length) : Sm.sames l m = false := by
  induction l generalizing m with
  | nil => cases m with
    | nil => simp at h
    | cons => rfl
  | cons a l ih => cases m with
    | nil => rfl
    | cons b m => simp only [Sm.sames, ih (m := m) (fun e => h (by simp [e])), Bool.and_false]

mutual
theorem Ex.same_rfl : ∀ e : Ex, e.same e = true
  | .mk op n s x => by simp [Ex.same, Ex.sames_rfl x]
theorem Ex.sames_rfl : ∀ l : List Ex, Ex.sames l l = true
  | [] => rfl
  | e :: l => by simp [Ex.sames, Ex.same_rfl e, Ex.sames_rfl l]
end
mutual
theorem Sm.same_rfl : ∀ e : Sm, e.same e = true
  | .mk op s n e b c k => by simp [Sm.same, Ex.sames_rfl e, Sm.sames_rfl b, Sm.sames_rfl c]
theorem Sm.sames_rfl : ∀ l : List Sm, Sm.sames l l = true
  | [] => rfl
  | e :: l => by simp [Sm.sames, Sm.same_rfl e, Sm.sames_rfl l]
end

mutual
theorem Ex.same_eq : ∀ a b : Ex, a.same b = true → a = b
  | .mk op n s x, .mk op' n' s' x', h => by
    simp only [Ex.same, Bool.and_eq_true, beq_iff_eq] at h
    obtain ⟨⟨⟨rfl, rfl⟩, rfl⟩, h⟩ := h
    rw [Ex.sames_eq x x' h]
theorem Ex.sames_eq : ∀ l m : List Ex, Ex.sames l m = true → l = m
  | [], [], _ => rfl
  | a :: l, b :: m, h => by
    simp only [Ex.sames, Bool.and_eq_true] at h
    rw [Ex.same_eq a b h.1, Ex.sames_eq l m h.2]
  | [], _ :: _, h => by simp [Ex.sames] at h
  | _ :: _, [], h => by simp [Ex.sames] at h
end
mutual
theorem Sm.same_eq : ∀ a b : Sm, a.same b = true → a = b
  | .mk op s n e b c k, .mk op' s' n' e' b' c' k', h => by
    simp only [Sm.same, Bool.and_eq_true, beq_iff_eq] at h
    obtain ⟨⟨⟨⟨⟨⟨rfl, rfl⟩, rfl⟩, rfl⟩, h1⟩, h2⟩, h3⟩ := h
    rw [Ex.sames_eq e e' h1, Sm.sames_eq b b' h2, Sm.sames_eq c c' h3]
theorem Sm.sames_eq : ∀ l m : List Sm, Sm.sames l m = true → l = m
  | [], [], _ => rfl
  | a :: l, b :: m, h => by
    simp only [Sm.sames, Bool.and_eq_true] at h
    rw [Sm.same_eq a b h.1, Sm.sames_eq l m h.2]
  | [], _ :: _, h => by simp [Sm.sames] at h
  | _ :: _, [], h => by simp [Sm.sames] at h
end

theorem Ex.rows_len (l : List Ex) : (Ex.rows l).length = l.length := by simp [Ex.rows_eq]
theorem Sm.rows_len (l : List Sm) : (Sm.rows l).length = l.length := by simp [Sm.rows_eq]
theorem Ex.rows_at {l : List Ex} {i : Nat} {e : Ex} (h : l[i]? = some e) : (Ex.rows l)[i]? = some e.cells := by rw [Ex.rows_eq, List.getElem?_map, h]; rfl
theorem Sm.rows_at {l : List Sm} {i : Nat} {e : Sm} (h : l[i]? = some e) : (Sm.rows l)[i]? = some e.cells := by rw [Sm.rows_eq, List.getElem?_map, h]; rfl
theorem Ex.cells_shape (e : Ex) : ∃ a b c d, e.cells = [.int .i64 a, .int .i64 b, .str c, .sl 4 d] := by cases e; exact ⟨_, _, _, _, rfl⟩
theorem Sm.cells_shape (e : Sm) : ∃ a b c d f g h, e.cells = [.int .i64 a, .str b, .int .i64 c, .sl 4 d, .sl 7 f, .sl 7 g, .bool h] := by cases e; exact ⟨_, _, _, _, _, _, _, rfl⟩

theorem at_some {α : Type} {l : List α} {i : Nat} (h : i < l.length) : ∃ e, l[i]? = some e ∧ e ∈ l ∧ l.drop i = e :: l.drop (i + 1) := by
  refine ⟨l[i], List.getElem?_eq_getElem h, List.getElem_mem h, ?_⟩
  rw [List.drop_eq_getElem_cons h]

theorem Sm.rows_append (a b : List Sm) : Sm.rows (a ++ b) = Sm.rows a ++ Sm.rows b := by simp [Sm.rows_eq]

end Go.AM.Spec

namespace Go.AM.Spec
set_option linter.unusedVariables false
set_option linter.unusedSimpArgs false
set_option maxHeartbeats 1000000

mutual
/-- Are all texts short? -/
def Ex.txt : Ex → Prop
  | .mk _ _ s x => s.length ≤ 300 ∧ Ex.txts x
def Ex.txts : List Ex → Prop
  | [] => True
  | e :: l => e.txt ∧ Ex.txts l
end
mutual
def Sm.txt : Sm → Prop
  | .mk _ s _ e b c _ => s.length ≤ 300 ∧ Ex.txts e ∧ Sm.txts b ∧ Sm.txts c
def Sm.txts : List Sm → Prop
  | [] => True
  | e :: l => e.txt ∧ Sm.txts l
end

theorem Ex.sizes_append (a b : List Ex) : Ex.sizes (a ++ b) = Ex.sizes a + Ex.sizes b := by
  induction a with
  | nil => simp [Ex.sizes]
  | cons e l ih => simp only [List.cons_append, Ex.sizes, ih]; omega
theorem Ex.txts_append {a b : List Ex} : Ex.txts (a ++ b) ↔ Ex.txts a ∧ Ex.txts b := by
  induction a with
  | nil => simp [Ex.txts]
  | cons e l ih => simp only [List.cons_append, Ex.txts, ih, and_assoc]
theorem Sm.txts_append {a b : List Sm} : Sm.txts (a ++ b) ↔ Sm.txts a ∧ Sm.txts b := by
  induction a with
  | nil => simp [Sm.txts]
  | cons e l ih => simp only [List.cons_append, Sm.txts, ih, and_assoc]

theorem take_next {α : Type} {l : List α} {i : Nat} {e : α} (h : l[i]? = some e) : l.take (i + 1) = l.take i ++ [e] := by
  rw [List.take_add_one, h]; rfl

def Pg.bodies (p : Pg) : List (List Sm) := p.procs.map (·.2)
def Pg.exprs (p : Pg) : List Ex := p.oracles.map (·.2)

theorem Pg.size_eq (p : Pg) : p.size = p.procs.length + p.oracles.length + Sm.sizes p.bodies.flatten + Sm.sizes p.main + Sm.sizes p.recover + Ex.sizes p.exprs := by
  have h : ∀ l : List (List UInt8 × List Sm), Sm.sizes (l.map (·.2)).flatten + l.length = (l.map fun x => 1 + Sm.sizes x.2).sum := by
    intro l
    induction l with
    | nil => rfl
    | cons x l ih => simp only [List.map_cons, List.flatten_cons, Go.AM.Spec.sizes_append, List.length_cons, List.sum_cons]; omega
  have h2 : ∀ l : List (List UInt8 × Ex), Ex.sizes (l.map (·.2)) + l.length = (l.map fun x => 1 + x.2.size).sum := by
    intro l
    induction l with
    | nil => rfl
    | cons x l ih => simp only [List.map_cons, Ex.sizes, List.length_cons, List.sum_cons]; omega
  have := h p.procs
  have := h2 p.oracles
  simp only [Pg.size, Pg.psize, Pg.osize, Pg.bodies, Pg.exprs]
  omega

/-- Are all its texts short? -/
def Pg.txt (p : Pg) : Prop := (∀ x ∈ p.procs, x.1.length ≤ 300 ∧ Sm.txts x.2) ∧ Sm.txts p.main ∧ Sm.txts p.recover ∧ (∀ x ∈ p.oracles, x.1.length ≤ 300 ∧ x.2.txt)

theorem Pg.orow {p : Pg} {i : Nat} {e : List UInt8 × Ex} (he : p.oracles[i]? = some e) : p.ocells[i]? = some (.str e.1 :: e.2.cells) := by rw [Pg.ocells, List.getElem?_map, he]; rfl

end Go.AM.Spec

namespace Go.AM.Spec
set_option linter.unusedVariables false
set_option linter.unusedSimpArgs false
set_option maxHeartbeats 1000000

/-- The statements right in one. -/
def Sm.inner : Sm → List Sm
  | .mk _ _ _ _ b c _ => b ++ c

theorem Sm.flat_inner (e : Sm) : e.flat = e :: Sm.flats e.inner := by
  cases e; simp only [Sm.flat, Sm.inner, Sm.flats_append]
theorem Sm.inner_size (e : Sm) : Sm.sizes e.inner + 1 ≤ e.size := by
  cases e; simp only [Sm.inner, sizes_append, Sm.size]; omega

theorem Sm.flats_pre : ∀ (n : Nat) (l : List Sm), Sm.sizes l ≤ n → ∀ (i : Nat) (e : Sm), (Sm.flats l)[i]? = some e → ∃ T, (Sm.flats l).drop (i + 1) = Sm.flats e.inner ++ T := by
  intro n
  induction n with
  | zero =>
    intro l h i e he
    cases l with
    | nil => simp [Sm.flats] at he
    | cons s r => have := s.inner_size; simp only [Sm.sizes] at h; omega
  | succ n ih =>
    intro l h i e he
    cases l with
    | nil => simp [Sm.flats] at he
    | cons s r =>
      have hs := s.inner_size
      simp only [Sm.sizes] at h
      have e1 : Sm.flats (s :: r) = s :: (Sm.flats s.inner ++ Sm.flats r) := by simp only [Sm.flats, Sm.flat_inner, List.cons_append]
      rw [e1] at he ⊢
      cases i with
      | zero =>
        simp only [List.getElem?_cons_zero, Option.some.injEq] at he
        subst he
        exact ⟨Sm.flats r, by simp⟩
      | succ j =>
        simp only [List.getElem?_cons_succ] at he
        rw [List.drop_succ_cons]
        by_cases hj : j < (Sm.flats s.inner).length
        · rw [List.getElem?_append_left hj] at he
          obtain ⟨T, hT⟩ := ih s.inner (by omega) j e he
          exact ⟨T ++ Sm.flats r, by rw [List.drop_append_of_le_length (by omega), hT, List.append_assoc]⟩
        · rw [List.getElem?_append_right (by omega)] at he
          obtain ⟨T, hT⟩ := ih r (by omega) _ e he
          refine ⟨T, ?_⟩
          rw [List.drop_append, List.drop_of_length_le (by omega), List.nil_append, ← hT]
          congr 1; omega

theorem Sm.flats_take (l : List Sm) (i : Nat) (e : Sm) (he : (Sm.flats l)[i]? = some e) :
    i + 1 + (Sm.flats e.inner).length ≤ (Sm.flats l).length ∧ ((Sm.flats l).drop (i + 1)).take (Sm.flats e.inner).length = Sm.flats e.inner := by
  obtain ⟨T, hT⟩ := Sm.flats_pre _ l (Nat.le_refl _) i e he
  have hi : i < (Sm.flats l).length := by
    rcases Nat.lt_or_ge i (Sm.flats l).length with h | h
    · exact h
    · rw [List.getElem?_eq_none h] at he; cases he
  have hl := congrArg List.length hT
  rw [List.length_drop, List.length_append] at hl
  exact ⟨by omega, by rw [hT, List.take_left]⟩

/-- Stands a kind in a block? -/
def hasOp (op : Int) (l : List Sm) : Bool := (Sm.flats l).any fun e => decide (e.op = op)

theorem hasOp_cons (op : Int) (e : Sm) (l : List Sm) : hasOp op (e :: l) = (decide (e.op = op) || hasOp op e.inner || hasOp op l) := by
  simp [hasOp, Sm.flats, Sm.flat_inner, List.any_append, Bool.or_assoc]
theorem hasOp_append (op : Int) (l m : List Sm) : hasOp op (l ++ m) = (hasOp op l || hasOp op m) := by
  simp [hasOp, Sm.flats_append, List.any_append]

end Go.AM.Spec

namespace Go.AM.Spec
set_option linter.unusedVariables false
set_option linter.unusedSimpArgs false
set_option maxHeartbeats 1000000
set_option maxRecDepth 10000

/-- Are two lists the same, element by element? -/
def eqL {α : Type} (p : α → α → Bool) : List α → List α → Bool
  | [], [] => true
  | a :: l, b :: m => p a b && eqL p l m
  | _, _ => false
theorem eqL_len {α : Type} (p : α → α → Bool) : ∀ {l m : List α}, l.length ≠ m.length → eqL p l m = false
  | [], [], h => absurd rfl h
  | [], _ :: _, _ => rfl
  | _ :: _, [], _ => rfl
  | a :: l, b :: m, h => by simp only [eqL, eqL_len p (l := l) (m := m) (fun e => h (by simp [e])), Bool.and_false]
theorem eqL_rfl {α : Type} {p : α → α → Bool} : ∀ {l : List α}, (∀ a ∈ l, p a a = true) → eqL p l l = true
  | [], _ => rfl
  | a :: l, h => by simp only [eqL, h a (by simp), eqL_rfl (l := l) (fun b hb => h b (by simp [hb])), Bool.and_true]
theorem Ex.sames_L : ∀ l m : List Ex, Ex.sames l m = eqL Ex.same l m
  | [], [] => rfl
  | [], _ :: _ => rfl
  | _ :: _, [] => rfl
  | a :: l, b :: m => by simp only [Ex.sames, eqL, Ex.sames_L l m]
theorem Sm.sames_L : ∀ l m : List Sm, Sm.sames l m = eqL Sm.same l m
  | [], [] => rfl
  | [], _ :: _ => rfl
  | _ :: _, [] => rfl
  | a :: l, b :: m => by simp only [Sm.sames, eqL, Sm.sames_L l m]

theorem slices_EqualFunc_api_Expr_api_Expr_api_Expr_api_Expr_loop (p : Ex → Ex → Bool) (call : CallF) (N : Nat) (H : Heap) (l m : List (Ex)) (hl : l.length ≤ 1000000) (hlm : m.length = l.length)
    (hf : ∀ a ∈ l, ∀ b K, call n_tree_expressions [.agg (Ex.cells a), .agg (Ex.cells b)] K = some (.bool (p a b), K)) (Q : Option (V × Heap) → Prop) (k : List Item)
    (hret : ∀ φ' K, eqL p l m = false → K.take N = H → N ≤ K.length → Fr.get φ' 6 = .bool false → Q (retK k φ' K)) (hexit : ∀ φ' K, eqL p l m = true → K.take N = H → N ≤ K.length → Q (M call k φ' K)) :
    ∀ (j i : Nat) (φ : Fr) (K : Heap), i + j = l.length → K.take N = H → N ≤ K.length → eqL p l m = eqL p (l.drop i) (m.drop i) → Fr.get φ 1 = .sl 4 (m.map Ex.cells) → Fr.get φ 2 = .fn (.func n_tree_expressions) [] [] → Fr.get φ 15 = .sl 4 (l.map Ex.cells) → Fr.get φ 16 = .int .i64 l.length → Fr.get φ 17 = .int .i64 i →
      Q (M call (.code l_slices_EqualFunc_api_Expr_api_Expr_api_Expr_api_Expr_0 :: .blk 0 :: k) φ K) := by
  intro j
  induction j with
  | zero =>
    intro i φ K hj hK hn hs h1 h2 h15 h16 h17
    have hi : ¬ ((i : Int) < l.length) := by omega
    rw [List.drop_of_length_le (by omega), List.drop_of_length_le (by omega)] at hs
    rw [l_slices_EqualFunc_api_Expr_api_Expr_api_Expr_api_Expr_0, M_loop, ← l_slices_EqualFunc_api_Expr_api_Expr_api_Expr_api_Expr_0]
    simp [b_slices_EqualFunc_api_Expr_api_Expr_api_Expr_api_Expr_0, h1, h2, h15, h16, h17, hi]
    exact hexit _ _ (by rw [hs]; rfl) hK hn
  | succ j ih =>
    intro i φ K hj hK hn hs h1 h2 h15 h16 h17
    have hi : (i : Int) < l.length := by omega
    have hil : i < l.length := by omega
    have him : i < m.length := by omega
    obtain ⟨a, ha, hmem, hd⟩ := at_some hil
    obtain ⟨b, hb, _, hd2⟩ := at_some him
    have hra : (l.map Ex.cells)[i]? = some (Ex.cells a) := by rw [List.getElem?_map, ha]; rfl
    have hrb : (m.map Ex.cells)[i]? = some (Ex.cells b) := by rw [List.getElem?_map, hb]; rfl
    have hgl : (l.map Ex.cells).length = l.length := List.length_map ..
    have hgm : (m.map Ex.cells).length = l.length := by rw [List.length_map, hlm]
    have hw1 : IntKind.i64.wrap ((i : Int) + 1) = ((i + 1 : Nat) : Int) := by rw [w64 (by omega) (by omega)]; rfl
    have hcall := hf a hmem b
    rw [hd, hd2, eqL] at hs
    obtain ⟨a0, a1, a2, a3⟩ := a
    obtain ⟨b0, b1, b2, b3⟩ := b
    simp only [Ex.cells] at hra hrb hcall
    rw [l_slices_EqualFunc_api_Expr_api_Expr_api_Expr_api_Expr_0, M_loop, ← l_slices_EqualFunc_api_Expr_api_Expr_api_Expr_api_Expr_0]
    cases hv : p (.mk a0 a1 a2 a3) (.mk b0 b1 b2 b3) with
    | false =>
      rw [hv, Bool.false_and] at hs
      rw [hv] at hcall
      simp [b_slices_EqualFunc_api_Expr_api_Expr_api_Expr_api_Expr_0, h1, h2, h15, h16, h17, hi, hgl, hgm, hra, hrb, hcall, get0, set0, get1, set1, lt_tree_expressions]
      exact hret _ _ hs (take_more hK hn _) (by simp; omega) (by simp)
    | true =>
      rw [hv, Bool.true_and] at hs
      rw [hv] at hcall
      simp [b_slices_EqualFunc_api_Expr_api_Expr_api_Expr_api_Expr_0, h1, h2, h15, h16, h17, hi, hgl, hgm, hra, hrb, hcall, get0, set0, get1, set1, lt_tree_expressions, hw1]
      exact ih (i + 1) _ _ (by omega) (take_more hK hn _) (by simp; omega) hs (by simp [h1]) (by simp [h2]) (by simp [h15]) (by simp [h16]) (by simp)

theorem slices_EqualFunc_api_Expr_api_Expr_api_Expr_api_Expr_eq (p : Ex → Ex → Bool) (H : Heap) (l m : List (Ex)) (hl : l.length ≤ 1000000)
    (hf : ∀ a ∈ l, ∀ b K, eval tbl noExt n_tree_expressions [.agg (Ex.cells a), .agg (Ex.cells b)] K = some (.bool (p a b), K)) :
    eval tbl noExt n_slices_EqualFunc_api_Expr_api_Expr_api_Expr_api_Expr [.sl 4 (l.map Ex.cells), .sl 4 (m.map Ex.cells), .fn (.func n_tree_expressions) [] []] H = some (.bool (eqL p l m), H) := by
  rw [eval_M rfl rfl t_slices_EqualFunc_api_Expr_api_Expr_api_Expr_api_Expr rfl]
  by_cases h4 : l.length = m.length
  · have h4' : (l.length : Int) = m.length := by omega
    simp [c_slices_EqualFunc_api_Expr_api_Expr_api_Expr_api_Expr, h4']
    refine slices_EqualFunc_api_Expr_api_Expr_api_Expr_api_Expr_loop p _ H.length H l m hl h4.symm hf (fun o => o = some (.bool (eqL p l m), H)) _ (fun φ' K hs hK hn g => ?_) (fun φ' K hs hK hn => ?_) l.length 0 _ _ (by omega) (by simp) (Nat.le_refl _) rfl (by simp) (by simp) (by simp) (by simp [h4]) (by simp)
    · simp [g, hs, hK]
    · simp [r_slices_EqualFunc_api_Expr_api_Expr_api_Expr_api_Expr_0, hs, hK]
  · have h4' : ¬ (l.length : Int) = m.length := by omega
    simp [c_slices_EqualFunc_api_Expr_api_Expr_api_Expr_api_Expr, h4', eqL_len p h4]

theorem slices_EqualFunc_api_Stmt_api_Stmt_api_Stmt_api_Stmt_loop (p : Sm → Sm → Bool) (call : CallF) (N : Nat) (H : Heap) (l m : List (Sm)) (hl : l.length ≤ 1000000) (hlm : m.length = l.length)
    (hf : ∀ a ∈ l, ∀ b K, call n_tree_statements [.agg (Sm.cells a), .agg (Sm.cells b)] K = some (.bool (p a b), K)) (Q : Option (V × Heap) → Prop) (k : List Item)
    (hret : ∀ φ' K, eqL p l m = false → K.take N = H → N ≤ K.length → Fr.get φ' 6 = .bool false → Q (retK k φ' K)) (hexit : ∀ φ' K, eqL p l m = true → K.take N = H → N ≤ K.length → Q (M call k φ' K)) :
    ∀ (j i : Nat) (φ : Fr) (K : Heap), i + j = l.length → K.take N = H → N ≤ K.length → eqL p l m = eqL p (l.drop i) (m.drop i) → Fr.get φ 1 = .sl 7 (m.map Sm.cells) → Fr.get φ 2 = .fn (.func n_tree_statements) [] [] → Fr.get φ 15 = .sl 7 (l.map Sm.cells) → Fr.get φ 16 = .int .i64 l.length → Fr.get φ 17 = .int .i64 i →
      Q (M call (.code l_slices_EqualFunc_api_Stmt_api_Stmt_api_Stmt_api_Stmt_0 :: .blk 0 :: k) φ K) := by
  intro j
  induction j with
  | zero =>
    intro i φ K hj hK hn hs h1 h2 h15 h16 h17
    have hi : ¬ ((i : Int) < l.length) := by omega
    rw [List.drop_of_length_le (by omega), List.drop_of_length_le (by omega)] at hs
    rw [l_slices_EqualFunc_api_Stmt_api_Stmt_api_Stmt_api_Stmt_0, M_loop, ← l_slices_EqualFunc_api_Stmt_api_Stmt_api_Stmt_api_Stmt_0]
    simp [b_slices_EqualFunc_api_Stmt_api_Stmt_api_Stmt_api_Stmt_0, h1, h2, h15, h16, h17, hi]
    exact hexit _ _ (by rw [hs]; rfl) hK hn
  | succ j ih =>
    intro i φ K hj hK hn hs h1 h2 h15 h16 h17
    have hi : (i : Int) < l.length := by omega
    have hil : i < l.length := by omega
    have him : i < m.length := by omega
    obtain ⟨a, ha, hmem, hd⟩ := at_some hil
    obtain ⟨b, hb, _, hd2⟩ := at_some him
    have hra : (l.map Sm.cells)[i]? = some (Sm.cells a) := by rw [List.getElem?_map, ha]; rfl
    have hrb : (m.map Sm.cells)[i]? = some (Sm.cells b) := by rw [List.getElem?_map, hb]; rfl
    have hgl : (l.map Sm.cells).length = l.length := List.length_map ..
    have hgm : (m.map Sm.cells).length = l.length := by rw [List.length_map, hlm]
    have hw1 : IntKind.i64.wrap ((i : Int) + 1) = ((i + 1 : Nat) : Int) := by rw [w64 (by omega) (by omega)]; rfl
    have hcall := hf a hmem b
    rw [hd, hd2, eqL] at hs
    obtain ⟨a0, a1, a2, a3, a4, a5, a6⟩ := a
    obtain ⟨b0, b1, b2, b3, b4, b5, b6⟩ := b
    simp only [Sm.cells] at hra hrb hcall
    rw [l_slices_EqualFunc_api_Stmt_api_Stmt_api_Stmt_api_Stmt_0, M_loop, ← l_slices_EqualFunc_api_Stmt_api_Stmt_api_Stmt_api_Stmt_0]
    cases hv : p (.mk a0 a1 a2 a3 a4 a5 a6) (.mk b0 b1 b2 b3 b4 b5 b6) with
    | false =>
      rw [hv, Bool.false_and] at hs
      rw [hv] at hcall
      simp [b_slices_EqualFunc_api_Stmt_api_Stmt_api_Stmt_api_Stmt_0, h1, h2, h15, h16, h17, hi, hgl, hgm, hra, hrb, hcall, get0, set0, get1, set1, lt_tree_statements]
      exact hret _ _ hs (take_more hK hn _) (by simp; omega) (by simp)
    | true =>
      rw [hv, Bool.true_and] at hs
      rw [hv] at hcall
      simp [b_slices_EqualFunc_api_Stmt_api_Stmt_api_Stmt_api_Stmt_0, h1, h2, h15, h16, h17, hi, hgl, hgm, hra, hrb, hcall, get0, set0, get1, set1, lt_tree_statements, hw1]
      exact ih (i + 1) _ _ (by omega) (take_more hK hn _) (by simp; omega) hs (by simp [h1]) (by simp [h2]) (by simp [h15]) (by simp [h16]) (by simp)

theorem slices_EqualFunc_api_Stmt_api_Stmt_api_Stmt_api_Stmt_eq (p : Sm → Sm → Bool) (H : Heap) (l m : List (Sm)) (hl : l.length ≤ 1000000)
    (hf : ∀ a ∈ l, ∀ b K, eval tbl noExt n_tree_statements [.agg (Sm.cells a), .agg (Sm.cells b)] K = some (.bool (p a b), K)) :
    eval tbl noExt n_slices_EqualFunc_api_Stmt_api_Stmt_api_Stmt_api_Stmt [.sl 7 (l.map Sm.cells), .sl 7 (m.map Sm.cells), .fn (.func n_tree_statements) [] []] H = some (.bool (eqL p l m), H) := by
  rw [eval_M rfl rfl t_slices_EqualFunc_api_Stmt_api_Stmt_api_Stmt_api_Stmt rfl]
  by_cases h4 : l.length = m.length
  · have h4' : (l.length : Int) = m.length := by omega
    simp [c_slices_EqualFunc_api_Stmt_api_Stmt_api_Stmt_api_Stmt, h4']
    refine slices_EqualFunc_api_Stmt_api_Stmt_api_Stmt_api_Stmt_loop p _ H.length H l m hl h4.symm hf (fun o => o = some (.bool (eqL p l m), H)) _ (fun φ' K hs hK hn g => ?_) (fun φ' K hs hK hn => ?_) l.length 0 _ _ (by omega) (by simp) (Nat.le_refl _) rfl (by simp) (by simp) (by simp) (by simp [h4]) (by simp)
    · simp [g, hs, hK]
    · simp [r_slices_EqualFunc_api_Stmt_api_Stmt_api_Stmt_api_Stmt_0, hs, hK]
  · have h4' : ¬ (l.length : Int) = m.length := by omega
    simp [c_slices_EqualFunc_api_Stmt_api_Stmt_api_Stmt_api_Stmt, h4', eqL_len p h4]

theorem lists_api_Stmt_eq (p : Sm → Sm → Bool) (H : Heap) (l m : List (Sm)) (hl : l.length ≤ 1000000)
    (hf : ∀ a ∈ l, ∀ b K, eval tbl noExt n_tree_statements [.agg (Sm.cells a), .agg (Sm.cells b)] K = some (.bool (p a b), K)) :
    eval tbl noExt n_tree_lists_api_Stmt [.sl 7 (l.map Sm.cells), .sl 7 (m.map Sm.cells), .fn (.func n_tree_statements) [] []] H = some (.bool (eqL p l m), H) := by
  have he := slices_EqualFunc_api_Stmt_api_Stmt_api_Stmt_api_Stmt_eq p H l m hl hf
  rw [eval_M rfl rfl t_tree_lists_api_Stmt rfl]
  by_cases h4 : l.length = m.length
  · have h4' : (l.length : Int) = m.length := by omega
    simp [c_tree_lists_api_Stmt, h4', he, lt_slices_EqualFunc_api_Stmt_api_Stmt_api_Stmt_api_Stmt]
  · have h4' : ¬ (l.length : Int) = m.length := by omega
    simp [c_tree_lists_api_Stmt, h4', eqL_len p h4]

def procCells (x : List UInt8 × List Sm) : List V := [.str x.1, .sl 7 (Sm.rows x.2)]
def oracleCells (x : List UInt8 × Ex) : List V := .str x.1 :: x.2.cells

theorem slices_EqualFunc_api_Proc_api_Proc_api_Proc_api_Proc_loop (p : List UInt8 × List Sm → List UInt8 × List Sm → Bool) (call : CallF) (N : Nat) (H : Heap) (l m : List (List UInt8 × List Sm)) (hl : l.length ≤ 1000000) (hlm : m.length = l.length)
    (hf : ∀ a ∈ l, ∀ b K, call n_tree_Same_1 [.agg (procCells a), .agg (procCells b)] K = some (.bool (p a b), K)) (Q : Option (V × Heap) → Prop) (k : List Item)
    (hret : ∀ φ' K, eqL p l m = false → K.take N = H → N ≤ K.length → Fr.get φ' 6 = .bool false → Q (retK k φ' K)) (hexit : ∀ φ' K, eqL p l m = true → K.take N = H → N ≤ K.length → Q (M call k φ' K)) :
    ∀ (j i : Nat) (φ : Fr) (K : Heap), i + j = l.length → K.take N = H → N ≤ K.length → eqL p l m = eqL p (l.drop i) (m.drop i) → Fr.get φ 1 = .sl 2 (m.map procCells) → Fr.get φ 2 = .fn (.func n_tree_Same_1) [] [] → Fr.get φ 15 = .sl 2 (l.map procCells) → Fr.get φ 16 = .int .i64 l.length → Fr.get φ 17 = .int .i64 i →
      Q (M call (.code l_slices_EqualFunc_api_Proc_api_Proc_api_Proc_api_Proc_0 :: .blk 0 :: k) φ K) := by
  intro j
  induction j with
  | zero =>
    intro i φ K hj hK hn hs h1 h2 h15 h16 h17
    have hi : ¬ ((i : Int) < l.length) := by omega
    rw [List.drop_of_length_le (by omega), List.drop_of_length_le (by omega)] at hs
    rw [l_slices_EqualFunc_api_Proc_api_Proc_api_Proc_api_Proc_0, M_loop, ← l_slices_EqualFunc_api_Proc_api_Proc_api_Proc_api_Proc_0]
    simp [b_slices_EqualFunc_api_Proc_api_Proc_api_Proc_api_Proc_0, h1, h2, h15, h16, h17, hi]
    exact hexit _ _ (by rw [hs]; rfl) hK hn
  | succ j ih =>
    intro i φ K hj hK hn hs h1 h2 h15 h16 h17
    have hi : (i : Int) < l.length := by omega
    have hil : i < l.length := by omega
    have him : i < m.length := by omega
    obtain ⟨a, ha, hmem, hd⟩ := at_some hil
    obtain ⟨b, hb, _, hd2⟩ := at_some him
    have hra : (l.map procCells)[i]? = some (procCells a) := by rw [List.getElem?_map, ha]; rfl
    have hrb : (m.map procCells)[i]? = some (procCells b) := by rw [List.getElem?_map, hb]; rfl
    have hgl : (l.map procCells).length = l.length := List.length_map ..
    have hgm : (m.map procCells).length = l.length := by rw [List.length_map, hlm]
    have hw1 : IntKind.i64.wrap ((i : Int) + 1) = ((i + 1 : Nat) : Int) := by rw [w64 (by omega) (by omega)]; rfl
    have hcall := hf a hmem b
    rw [hd, hd2, eqL] at hs
    obtain ⟨a0, a1⟩ := a
    obtain ⟨b0, b1⟩ := b
    simp only [procCells] at hra hrb hcall
    rw [l_slices_EqualFunc_api_Proc_api_Proc_api_Proc_api_Proc_0, M_loop, ← l_slices_EqualFunc_api_Proc_api_Proc_api_Proc_api_Proc_0]
    cases hv : p (a0, a1) (b0, b1) with
    | false =>
      rw [hv, Bool.false_and] at hs
      rw [hv] at hcall
      simp [b_slices_EqualFunc_api_Proc_api_Proc_api_Proc_api_Proc_0, h1, h2, h15, h16, h17, hi, hgl, hgm, hra, hrb, hcall, get0, set0, get1, set1, lt_tree_Same_1]
      exact hret _ _ hs (take_more hK hn _) (by simp; omega) (by simp)
    | true =>
      rw [hv, Bool.true_and] at hs
      rw [hv] at hcall
      simp [b_slices_EqualFunc_api_Proc_api_Proc_api_Proc_api_Proc_0, h1, h2, h15, h16, h17, hi, hgl, hgm, hra, hrb, hcall, get0, set0, get1, set1, lt_tree_Same_1, hw1]
      exact ih (i + 1) _ _ (by omega) (take_more hK hn _) (by simp; omega) hs (by simp [h1]) (by simp [h2]) (by simp [h15]) (by simp [h16]) (by simp)

theorem slices_EqualFunc_api_Proc_api_Proc_api_Proc_api_Proc_eq (p : List UInt8 × List Sm → List UInt8 × List Sm → Bool) (H : Heap) (l m : List (List UInt8 × List Sm)) (hl : l.length ≤ 1000000)
    (hf : ∀ a ∈ l, ∀ b K, eval tbl noExt n_tree_Same_1 [.agg (procCells a), .agg (procCells b)] K = some (.bool (p a b), K)) :
    eval tbl noExt n_slices_EqualFunc_api_Proc_api_Proc_api_Proc_api_Proc [.sl 2 (l.map procCells), .sl 2 (m.map procCells), .fn (.func n_tree_Same_1) [] []] H = some (.bool (eqL p l m), H) := by
  rw [eval_M rfl rfl t_slices_EqualFunc_api_Proc_api_Proc_api_Proc_api_Proc rfl]
  by_cases h4 : l.length = m.length
  · have h4' : (l.length : Int) = m.length := by omega
    simp [c_slices_EqualFunc_api_Proc_api_Proc_api_Proc_api_Proc, h4']
    refine slices_EqualFunc_api_Proc_api_Proc_api_Proc_api_Proc_loop p _ H.length H l m hl h4.symm hf (fun o => o = some (.bool (eqL p l m), H)) _ (fun φ' K hs hK hn g => ?_) (fun φ' K hs hK hn => ?_) l.length 0 _ _ (by omega) (by simp) (Nat.le_refl _) rfl (by simp) (by simp) (by simp) (by simp [h4]) (by simp)
    · simp [g, hs, hK]
    · simp [r_slices_EqualFunc_api_Proc_api_Proc_api_Proc_api_Proc_0, hs, hK]
  · have h4' : ¬ (l.length : Int) = m.length := by omega
    simp [c_slices_EqualFunc_api_Proc_api_Proc_api_Proc_api_Proc, h4', eqL_len p h4]

theorem lists_api_Proc_eq (p : List UInt8 × List Sm → List UInt8 × List Sm → Bool) (H : Heap) (l m : List (List UInt8 × List Sm)) (hl : l.length ≤ 1000000)
    (hf : ∀ a ∈ l, ∀ b K, eval tbl noExt n_tree_Same_1 [.agg (procCells a), .agg (procCells b)] K = some (.bool (p a b), K)) :
    eval tbl noExt n_tree_lists_api_Proc [.sl 2 (l.map procCells), .sl 2 (m.map procCells), .fn (.func n_tree_Same_1) [] []] H = some (.bool (eqL p l m), H) := by
  have he := slices_EqualFunc_api_Proc_api_Proc_api_Proc_api_Proc_eq p H l m hl hf
  rw [eval_M rfl rfl t_tree_lists_api_Proc rfl]
  by_cases h4 : l.length = m.length
  · have h4' : (l.length : Int) = m.length := by omega
    simp [c_tree_lists_api_Proc, h4', he, lt_slices_EqualFunc_api_Proc_api_Proc_api_Proc_api_Proc]
  · have h4' : ¬ (l.length : Int) = m.length := by omega
    simp [c_tree_lists_api_Proc, h4', eqL_len p h4]

theorem slices_EqualFunc_api_Oracle_api_Oracle_api_Oracle_api_Oracle_loop (p : List UInt8 × Ex → List UInt8 × Ex → Bool) (call : CallF) (N : Nat) (H : Heap) (l m : List (List UInt8 × Ex)) (hl : l.length ≤ 1000000) (hlm : m.length = l.length)
    (hf : ∀ a ∈ l, ∀ b K, call n_tree_Same_2 [.agg (oracleCells a), .agg (oracleCells b)] K = some (.bool (p a b), K)) (Q : Option (V × Heap) → Prop) (k : List Item)
    (hret : ∀ φ' K, eqL p l m = false → K.take N = H → N ≤ K.length → Fr.get φ' 6 = .bool false → Q (retK k φ' K)) (hexit : ∀ φ' K, eqL p l m = true → K.take N = H → N ≤ K.length → Q (M call k φ' K)) :
    ∀ (j i : Nat) (φ : Fr) (K : Heap), i + j = l.length → K.take N = H → N ≤ K.length → eqL p l m = eqL p (l.drop i) (m.drop i) → Fr.get φ 1 = .sl 5 (m.map oracleCells) → Fr.get φ 2 = .fn (.func n_tree_Same_2) [] [] → Fr.get φ 15 = .sl 5 (l.map oracleCells) → Fr.get φ 16 = .int .i64 l.length → Fr.get φ 17 = .int .i64 i →
      Q (M call (.code l_slices_EqualFunc_api_Oracle_api_Oracle_api_Oracle_api_Oracle_0 :: .blk 0 :: k) φ K) := by
  intro j
  induction j with
  | zero =>
    intro i φ K hj hK hn hs h1 h2 h15 h16 h17
    have hi : ¬ ((i : Int) < l.length) := by omega
    rw [List.drop_of_length_le (by omega), List.drop_of_length_le (by omega)] at hs
    rw [l_slices_EqualFunc_api_Oracle_api_Oracle_api_Oracle_api_Oracle_0, M_loop, ← l_slices_EqualFunc_api_Oracle_api_Oracle_api_Oracle_api_Oracle_0]
    simp [b_slices_EqualFunc_api_Oracle_api_Oracle_api_Oracle_api_Oracle_0, h1, h2, h15, h16, h17, hi]
    exact hexit _ _ (by rw [hs]; rfl) hK hn
  | succ j ih =>
    intro i φ K hj hK hn hs h1 h2 h15 h16 h17
    have hi : (i : Int) < l.length := by omega
    have hil : i < l.length := by omega
    have him : i < m.length := by omega
    obtain ⟨a, ha, hmem, hd⟩ := at_some hil
    obtain ⟨b, hb, _, hd2⟩ := at_some him
    have hra : (l.map oracleCells)[i]? = some (oracleCells a) := by rw [List.getElem?_map, ha]; rfl
    have hrb : (m.map oracleCells)[i]? = some (oracleCells b) := by rw [List.getElem?_map, hb]; rfl
    have hgl : (l.map oracleCells).length = l.length := List.length_map ..
    have hgm : (m.map oracleCells).length = l.length := by rw [List.length_map, hlm]
    have hw1 : IntKind.i64.wrap ((i : Int) + 1) = ((i + 1 : Nat) : Int) := by rw [w64 (by omega) (by omega)]; rfl
    have hcall := hf a hmem b
    rw [hd, hd2, eqL] at hs
    obtain ⟨a, ⟨a0, a1, a2, a3⟩⟩ := a
    obtain ⟨b, ⟨b0, b1, b2, b3⟩⟩ := b
    simp only [oracleCells, Ex.cells] at hra hrb hcall
    rw [l_slices_EqualFunc_api_Oracle_api_Oracle_api_Oracle_api_Oracle_0, M_loop, ← l_slices_EqualFunc_api_Oracle_api_Oracle_api_Oracle_api_Oracle_0]
    cases hv : p (a, .mk a0 a1 a2 a3) (b, .mk b0 b1 b2 b3) with
    | false =>
      rw [hv, Bool.false_and] at hs
      rw [hv] at hcall
      simp [b_slices_EqualFunc_api_Oracle_api_Oracle_api_Oracle_api_Oracle_0, h1, h2, h15, h16, h17, hi, hgl, hgm, hra, hrb, hcall, get0, set0, get1, set1, lt_tree_Same_2]
      exact hret _ _ hs (take_more hK hn _) (by simp; omega) (by simp)
    | true =>
      rw [hv, Bool.true_and] at hs
      rw [hv] at hcall
      simp [b_slices_EqualFunc_api_Oracle_api_Oracle_api_Oracle_api_Oracle_0, h1, h2, h15, h16, h17, hi, hgl, hgm, hra, hrb, hcall, get0, set0, get1, set1, lt_tree_Same_2, hw1]
      exact ih (i + 1) _ _ (by omega) (take_more hK hn _) (by simp; omega) hs (by simp [h1]) (by simp [h2]) (by simp [h15]) (by simp [h16]) (by simp)

theorem slices_EqualFunc_api_Oracle_api_Oracle_api_Oracle_api_Oracle_eq (p : List UInt8 × Ex → List UInt8 × Ex → Bool) (H : Heap) (l m : List (List UInt8 × Ex)) (hl : l.length ≤ 1000000)
    (hf : ∀ a ∈ l, ∀ b K, eval tbl noExt n_tree_Same_2 [.agg (oracleCells a), .agg (oracleCells b)] K = some (.bool (p a b), K)) :
    eval tbl noExt n_slices_EqualFunc_api_Oracle_api_Oracle_api_Oracle_api_Oracle [.sl 5 (l.map oracleCells), .sl 5 (m.map oracleCells), .fn (.func n_tree_Same_2) [] []] H = some (.bool (eqL p l m), H) := by
  rw [eval_M rfl rfl t_slices_EqualFunc_api_Oracle_api_Oracle_api_Oracle_api_Oracle rfl]
  by_cases h4 : l.length = m.length
  · have h4' : (l.length : Int) = m.length := by omega
    simp [c_slices_EqualFunc_api_Oracle_api_Oracle_api_Oracle_api_Oracle, h4']
    refine slices_EqualFunc_api_Oracle_api_Oracle_api_Oracle_api_Oracle_loop p _ H.length H l m hl h4.symm hf (fun o => o = some (.bool (eqL p l m), H)) _ (fun φ' K hs hK hn g => ?_) (fun φ' K hs hK hn => ?_) l.length 0 _ _ (by omega) (by simp) (Nat.le_refl _) rfl (by simp) (by simp) (by simp) (by simp [h4]) (by simp)
    · simp [g, hs, hK]
    · simp [r_slices_EqualFunc_api_Oracle_api_Oracle_api_Oracle_api_Oracle_0, hs, hK]
  · have h4' : ¬ (l.length : Int) = m.length := by omega
    simp [c_slices_EqualFunc_api_Oracle_api_Oracle_api_Oracle_api_Oracle, h4', eqL_len p h4]

theorem lists_api_Oracle_eq (p : List UInt8 × Ex → List UInt8 × Ex → Bool) (H : Heap) (l m : List (List UInt8 × Ex)) (hl : l.length ≤ 1000000)
    (hf : ∀ a ∈ l, ∀ b K, eval tbl noExt n_tree_Same_2 [.agg (oracleCells a), .agg (oracleCells b)] K = some (.bool (p a b), K)) :
    eval tbl noExt n_tree_lists_api_Oracle [.sl 5 (l.map oracleCells), .sl 5 (m.map oracleCells), .fn (.func n_tree_Same_2) [] []] H = some (.bool (eqL p l m), H) := by
  have he := slices_EqualFunc_api_Oracle_api_Oracle_api_Oracle_api_Oracle_eq p H l m hl hf
  rw [eval_M rfl rfl t_tree_lists_api_Oracle rfl]
  by_cases h4 : l.length = m.length
  · have h4' : (l.length : Int) = m.length := by omega
    simp [c_tree_lists_api_Oracle, h4', he, lt_slices_EqualFunc_api_Oracle_api_Oracle_api_Oracle_api_Oracle]
  · have h4' : ¬ (l.length : Int) = m.length := by omega
    simp [c_tree_lists_api_Oracle, h4', eqL_len p h4]

end Go.AM.Spec

namespace Go.AM.Spec
set_option linter.unusedVariables false
set_option linter.unusedSimpArgs false
set_option maxHeartbeats 1000000
set_option maxRecDepth 10000

theorem expressions_eq : ∀ (n : Nat) (a b : Ex), a.size ≤ n → n ≤ 20000 → ∀ H, eval tbl noExt n_tree_expressions [.agg a.cells, .agg b.cells] H = some (.bool (a.same b), H) := by
  intro n
  induction n with
  | zero => intro a b h; cases a; simp only [Ex.size] at h; omega
  | succ n ih =>
    intro a b h hn H
    obtain ⟨op, m, s, x⟩ := a
    obtain ⟨op', m', s', x'⟩ := b
    simp only [Ex.size] at h
    have hx := Ex.sizes_ge x
    have he := slices_EqualFunc_api_Expr_api_Expr_api_Expr_api_Expr_eq Ex.same [] x x' (by omega) (fun e he b K => ih e b (by have := Ex.sizes_mem he; omega) (by omega) K)
    rw [← Ex.rows_eq, ← Ex.rows_eq, ← Ex.sames_L] at he
    rw [eval_M rfl rfl t_tree_expressions rfl]
    by_cases h1 : op = op'
    · by_cases h2 : m = m'
      · by_cases h3 : s = s'
        · cases hv : Ex.sames x x' <;> rw [hv] at he <;> simp [c_tree_expressions, Ex.cells, h1, h2, h3, he, get0, get1, set0, set1, Ex.same, hv, lt_slices_EqualFunc_api_Expr_api_Expr_api_Expr_api_Expr]
        · simp [c_tree_expressions, Ex.cells, h1, h2, h3, get0, get1, Ex.same]
      · simp [c_tree_expressions, Ex.cells, h1, h2, get0, get1, Ex.same]
    · simp [c_tree_expressions, Ex.cells, h1, get0, get1, Ex.same]

theorem statements_eq : ∀ (n : Nat) (a b : Sm), a.size ≤ n → n ≤ 20000 → ∀ H, eval tbl noExt n_tree_statements [.agg a.cells, .agg b.cells] H = some (.bool (a.same b), H) := by
  intro n
  induction n with
  | zero => intro a b h; cases a; simp only [Sm.size] at h; omega
  | succ n ih =>
    intro a b h hn H
    obtain ⟨op, s, w, x, y, z, g⟩ := a
    obtain ⟨op', s', w', x', y', z', g'⟩ := b
    simp only [Sm.size] at h
    have hx := Ex.sizes_ge x
    have hy := Sm.sizes_ge y
    have hz := Sm.sizes_ge z
    have he := slices_EqualFunc_api_Expr_api_Expr_api_Expr_api_Expr_eq Ex.same [] x x' (by omega) (fun e he b K => expressions_eq 20000 e b (by have := Ex.sizes_mem he; omega) (by omega) K)
    have e1 := lists_api_Stmt_eq Sm.same [] y y' (by omega) (fun e he f K => ih e f (by have := Sm.sizes_mem he; omega) (by omega) K)
    have e2 := lists_api_Stmt_eq Sm.same [] z z' (by omega) (fun e he f K => ih e f (by have := Sm.sizes_mem he; omega) (by omega) K)
    rw [← Ex.rows_eq, ← Ex.rows_eq, ← Ex.sames_L] at he
    rw [← Sm.rows_eq, ← Sm.rows_eq, ← Sm.sames_L] at e1 e2
    rw [eval_M rfl rfl t_tree_statements rfl]
    by_cases h1 : op = op'
    · by_cases h3 : w = w'
      · by_cases h2 : s = s'
        · by_cases h5 : g = g'
          · cases hv : Ex.sames x x' with
            | false => rw [hv] at he; simp [c_tree_statements, Sm.cells, h1, h2, h3, h5, he, get0, get1, Sm.same, hv]
            | true =>
              rw [hv] at he
              cases hv1 : Sm.sames y y' with
              | false => rw [hv1] at e1; simp [c_tree_statements, Sm.cells, h1, h2, h3, h5, he, e1, get0, get1, Sm.same, hv, hv1]
              | true =>
                rw [hv1] at e1
                cases hv2 : Sm.sames z z' <;> rw [hv2] at e2 <;> simp [c_tree_statements, Sm.cells, h1, h2, h3, h5, he, e1, e2, get0, get1, Sm.same, hv, hv1, hv2]
          · simp [c_tree_statements, Sm.cells, h1, h2, h3, h5, get0, get1, Sm.same]
        · simp [c_tree_statements, Sm.cells, h1, h2, h3, get0, get1, Sm.same]
      · simp [c_tree_statements, Sm.cells, h1, h3, get0, get1, Sm.same]
    · simp [c_tree_statements, Sm.cells, h1, get0, get1, Sm.same]

theorem sts_eq (l m : List Sm) (h : Sm.sizes l ≤ 20000) (H : Heap) : eval tbl noExt n_tree_lists_api_Stmt [.sl 7 (Sm.rows l), .sl 7 (Sm.rows m), .fn (.func n_tree_statements) [] []] H = some (.bool (Sm.sames l m), H) := by
  have hl := Sm.sizes_ge l
  have e1 := lists_api_Stmt_eq Sm.same H l m (by omega) (fun e he f K => statements_eq 20000 e f (by have := Sm.sizes_mem he; omega) (by omega) K)
  rwa [← Sm.rows_eq, ← Sm.rows_eq, ← Sm.sames_L] at e1

def prSame (x y : List UInt8 × List Sm) : Bool := x.1 == y.1 && Sm.sames x.2 y.2
def orSame (x y : List UInt8 × Ex) : Bool := x.1 == y.1 && x.2.same y.2
/-- Are two programs the same? -/
def Pg.same (p q : Pg) : Bool := eqL prSame p.procs q.procs && Sm.sames p.main q.main && Sm.sames p.recover q.recover && eqL orSame p.oracles q.oracles

theorem Same_1_eq (x y : List UInt8 × List Sm) (h : Sm.sizes x.2 ≤ 20000) (H : Heap) : eval tbl noExt n_tree_Same_1 [.agg (procCells x), .agg (procCells y)] H = some (.bool (prSame x y), H) := by
  obtain ⟨s, b⟩ := x
  obtain ⟨s', b'⟩ := y
  have he := sts_eq b b' h []
  rw [eval_M rfl rfl t_tree_Same_1 rfl]
  by_cases h1 : s = s'
  · cases hv : Sm.sames b b' <;> rw [hv] at he <;> simp [c_tree_Same_1, procCells, prSame, h1, he, get0, get1, hv]
  · simp [c_tree_Same_1, procCells, prSame, h1, get0, get1]
theorem Same_2_eq (x y : List UInt8 × Ex) (h : x.2.size ≤ 20000) (H : Heap) : eval tbl noExt n_tree_Same_2 [.agg (oracleCells x), .agg (oracleCells y)] H = some (.bool (orSame x y), H) := by
  obtain ⟨s, b⟩ := x
  obtain ⟨s', b'⟩ := y
  have he := expressions_eq 20000 b b' h (Nat.le_refl _) []
  obtain ⟨a0, a1, a2, a3⟩ := b
  obtain ⟨b0, b1, b2, b3⟩ := b'
  simp only [Ex.cells] at he
  rw [eval_M rfl rfl t_tree_Same_2 rfl]
  by_cases h1 : s = s'
  · cases hv : Ex.same (.mk a0 a1 a2 a3) (.mk b0 b1 b2 b3) <;> rw [hv] at he <;> simp [c_tree_Same_2, oracleCells, Ex.cells, orSame, h1, he, get0, get1, hv]
  · simp [c_tree_Same_2, oracleCells, Ex.cells, orSame, h1, get0, get1]

theorem Pg.small (p : Pg) (h : p.size ≤ 20000) : (∀ x ∈ p.procs, Sm.sizes x.2 ≤ 20000) ∧ (∀ x ∈ p.oracles, x.2.size ≤ 20000) ∧ p.procs.length ≤ 20000 ∧ p.oracles.length ≤ 20000 ∧ Sm.sizes p.main ≤ 20000 ∧ Sm.sizes p.recover ≤ 20000 := by
  have hs := p.size_eq
  refine ⟨fun x hx => ?_, fun x hx => ?_, by omega, by omega, by omega, by omega⟩
  · have hm : x.2 ∈ p.bodies := by simp only [Pg.bodies, List.mem_map]; exact ⟨x, hx, rfl⟩
    have := sizes_flatten hm
    omega
  · have hm : x.2 ∈ p.exprs := by simp only [Pg.exprs, List.mem_map]; exact ⟨x, hx, rfl⟩
    have := Ex.sizes_mem hm
    omega

theorem Same_eq (p q : Pg) (h : p.size ≤ 20000) : eval tbl noExt n_tree_Same [.agg p.cells, .agg q.cells] [] = some (.bool (p.same q), []) := by
  obtain ⟨hp, ho, hpl, hol, hm, hr⟩ := p.small h
  have e0 := fun H => lists_api_Proc_eq prSame H p.procs q.procs (by omega) (fun x hx y K => Same_1_eq x y (hp x hx) K)
  have e1 := sts_eq p.main q.main hm []
  have e2 := sts_eq p.recover q.recover hr []
  have e3 := fun H => lists_api_Oracle_eq orSame H p.oracles q.oracles (by omega) (fun x hx y K => Same_2_eq x y (ho x hx) K)
  have hpc : p.cells = [.sl 2 (p.procs.map procCells), .sl 7 (Sm.rows p.main), .sl 7 (Sm.rows p.recover), .sl 5 (p.oracles.map oracleCells)] := rfl
  have hqc : q.cells = [.sl 2 (q.procs.map procCells), .sl 7 (Sm.rows q.main), .sl 7 (Sm.rows q.recover), .sl 5 (q.oracles.map oracleCells)] := rfl
  rw [eval_M rfl rfl t_tree_Same rfl, hpc, hqc]
  cases hv0 : eqL prSame p.procs q.procs with
  | false => rw [hv0] at e0; simp [c_tree_Same, e0, Pg.same, hv0, get0, get1, lt_tree_lists_api_Proc]
  | true =>
    rw [hv0] at e0
    cases hv1 : Sm.sames p.main q.main with
    | false => rw [hv1] at e1; simp [c_tree_Same, e0, e1, Pg.same, hv0, hv1, get0, get1, lt_tree_lists_api_Proc]
    | true =>
      rw [hv1] at e1
      cases hv2 : Sm.sames p.recover q.recover with
      | false => rw [hv2] at e2; simp [c_tree_Same, e0, e1, e2, Pg.same, hv0, hv1, hv2, get0, get1, lt_tree_lists_api_Proc]
      | true =>
        rw [hv2] at e2
        cases hv3 : eqL orSame p.oracles q.oracles <;> rw [hv3] at e3 <;> simp [c_tree_Same, e0, e1, e2, e3, Pg.same, hv0, hv1, hv2, hv3, get0, get1, lt_tree_lists_api_Proc, lt_tree_lists_api_Oracle]

theorem prSame_rfl (x : List UInt8 × List Sm) : prSame x x = true := by simp [prSame, Sm.sames_rfl]
theorem orSame_rfl (x : List UInt8 × Ex) : orSame x x = true := by simp [orSame, Ex.same_rfl]
theorem Pg.same_rfl (p : Pg) : p.same p = true := by
  simp [Pg.same, eqL_rfl (fun a _ => prSame_rfl a), eqL_rfl (fun a _ => orSame_rfl a), Sm.sames_rfl]

end Go.AM.Spec

namespace Go.AM.Spec
set_option linter.unusedVariables false
set_option linter.unusedSimpArgs false
set_option maxHeartbeats 1000000
set_option maxRecDepth 10000

theorem each_expr_loop (call : CallF) (R : Option (V × Heap)) (n : Nat) (H : Heap) (l : List Ex) (hl : l.length ≤ 20000) (hf : ∀ e ∈ l, ∀ K, call n_tree_clonedExpr [.agg e.cells] K = some (.agg e.cells, K)) (k : List Item)
    (hexit : ∀ φ' K, K.take n = H → n ≤ K.length → Fr.get φ' 5 = .own 4 (Ex.rows l) → M call k φ' K = R) :
    ∀ (j i : Nat) (φ : Fr) (K : Heap), i + j = l.length → K.take n = H → n ≤ K.length → Fr.get φ 1 = .fn (.func n_tree_clonedExpr) [] [] → Fr.get φ 5 = .own 4 (Ex.rows (l.take i)) → Fr.get φ 8 = .sl 4 (Ex.rows l) → Fr.get φ 9 = .int .i64 l.length → Fr.get φ 10 = .int .i64 i →
      M call (.code l_tree_each_api_Expr_0 :: .blk 0 :: k) φ K = R := by
  intro j
  induction j with
  | zero =>
    intro i φ K hj hK hn h1 h5 h8 h9 h10
    have hi : ¬ ((i : Int) < l.length) := by omega
    have h5' : Fr.get φ 5 = .own 4 (Ex.rows l) := by rw [h5, List.take_of_length_le (by omega)]
    rw [l_tree_each_api_Expr_0, M_loop, ← l_tree_each_api_Expr_0]
    simp [b_tree_each_api_Expr_0, h1, h5', h8, h9, h10, hi]
    exact hexit _ _ hK hn (by simp)
  | succ j ih =>
    intro i φ K hj hK hn h1 h5 h8 h9 h10
    have hi : (i : Int) < l.length := by omega
    have hil : i < l.length := by omega
    obtain ⟨e, he⟩ : ∃ e, l[i]? = some e := ⟨l[i], List.getElem?_eq_getElem hil⟩
    have hmem : e ∈ l := List.mem_of_getElem? he
    have hrow : (Ex.rows l)[i]? = some e.cells := by rw [Ex.rows_eq, List.getElem?_map, he]; rfl
    have hcl : (Ex.rows l).length = l.length := by rw [Ex.rows_eq]; simp
    have hck : (Ex.rows (l.take i)).length = i := by rw [Ex.rows_eq]; simp; omega
    have hnext : Ex.rows (l.take i) ++ [e.cells] = Ex.rows (l.take (i + 1)) := by
      rw [Ex.rows_eq, Ex.rows_eq, List.take_add_one, he]; simp
    have hw : IntKind.i64.wrap ((i : Int) + 1) = ((i + 1 : Nat) : Int) := by rw [w64 (by omega) (by omega)]; rfl
    have hb : 2 * (i + 1) * 56 ≤ 281474976710656 := by omega
    obtain ⟨op, m, s, x⟩ := e
    simp only [Ex.cells] at hrow hnext
    have hcall := hf _ hmem
    simp only [Ex.cells] at hcall
    rw [l_tree_each_api_Expr_0, M_loop, ← l_tree_each_api_Expr_0]
    simp [b_tree_each_api_Expr_0, h1, h5, h8, h9, h10, hi, hcl, hrow, hcall, hck, get0, set0, lt_tree_clonedExpr, hnext, hw, hb]
    refine ih (i + 1) _ _ (by omega) (take_more hK hn _) (by simp; omega) ?_ ?_ ?_ ?_ ?_ <;> simp

/-- A list, every element cloned. -/
theorem each_expr_eq (l : List Ex) (hl : l.length ≤ 20000) (hf : ∀ e ∈ l, ∀ K, eval tbl noExt n_tree_clonedExpr [.agg e.cells] K = some (.agg e.cells, K)) (H : Heap) :
    eval tbl noExt n_tree_each_api_Expr [.sl 4 (Ex.rows l), .fn (.func n_tree_clonedExpr) [] []] H = some (.own 4 (Ex.rows l), H) := by
  have hcl : (Ex.rows l).length = l.length := by rw [Ex.rows_eq]; simp
  rw [eval_M rfl rfl t_tree_each_api_Expr rfl]
  simp [c_tree_each_api_Expr, hcl]
  refine each_expr_loop _ _ H.length H l hl hf _ (fun φ' K hK hn h5 => by simp [r_tree_each_api_Expr_0, h5, hK]) l.length 0 _ H (by omega) (by simp) (Nat.le_refl _) ?_ ?_ ?_ ?_ ?_ <;> simp [Ex.rows]

theorem clonedExpr_eq : ∀ (n : Nat) (e : Ex), e.size ≤ n → n ≤ 20000 → ∀ H, eval tbl noExt n_tree_clonedExpr [.agg e.cells] H = some (.agg e.cells, H) := by
  intro n
  induction n with
  | zero =>
    intro e h
    cases e
    simp only [Ex.size] at h; omega
  | succ n ih =>
    intro e h hn H
    obtain ⟨op, m, s, x⟩ := e
    simp only [Ex.size] at h
    have hx := Ex.sizes_ge x
    have he := each_expr_eq x (by omega) (fun e he K => ih e (by have := Ex.sizes_mem he; omega) (by omega) K) []
    rw [eval_M rfl rfl t_tree_clonedExpr rfl]
    simp [c_tree_clonedExpr, Ex.cells, he, get0, get1, set0, set1]

theorem each_stmt_loop (call : CallF) (R : Option (V × Heap)) (n : Nat) (H : Heap) (l : List Sm) (hl : l.length ≤ 20000) (hf : ∀ e ∈ l, ∀ K, call n_tree_cloned [.agg e.cells] K = some (.agg e.cells, K)) (k : List Item)
    (hexit : ∀ φ' K, K.take n = H → n ≤ K.length → Fr.get φ' 5 = .own 7 (Sm.rows l) → M call k φ' K = R) :
    ∀ (j i : Nat) (φ : Fr) (K : Heap), i + j = l.length → K.take n = H → n ≤ K.length → Fr.get φ 1 = .fn (.func n_tree_cloned) [] [] → Fr.get φ 5 = .own 7 (Sm.rows (l.take i)) → Fr.get φ 8 = .sl 7 (Sm.rows l) → Fr.get φ 9 = .int .i64 l.length → Fr.get φ 10 = .int .i64 i →
      M call (.code l_tree_each_api_Stmt_0 :: .blk 0 :: k) φ K = R := by
  intro j
  induction j with
  | zero =>
    intro i φ K hj hK hn h1 h5 h8 h9 h10
    have hi : ¬ ((i : Int) < l.length) := by omega
    have h5' : Fr.get φ 5 = .own 7 (Sm.rows l) := by rw [h5, List.take_of_length_le (by omega)]
    rw [l_tree_each_api_Stmt_0, M_loop, ← l_tree_each_api_Stmt_0]
    simp [b_tree_each_api_Stmt_0, h1, h5', h8, h9, h10, hi]
    exact hexit _ _ hK hn (by simp)
  | succ j ih =>
    intro i φ K hj hK hn h1 h5 h8 h9 h10
    have hi : (i : Int) < l.length := by omega
    have hil : i < l.length := by omega
    obtain ⟨e, he⟩ : ∃ e, l[i]? = some e := ⟨l[i], List.getElem?_eq_getElem hil⟩
    have hmem : e ∈ l := List.mem_of_getElem? he
    have hrow : (Sm.rows l)[i]? = some e.cells := by rw [Sm.rows_eq, List.getElem?_map, he]; rfl
    have hcl : (Sm.rows l).length = l.length := by rw [Sm.rows_eq]; simp
    have hck : (Sm.rows (l.take i)).length = i := by rw [Sm.rows_eq]; simp; omega
    have hnext : Sm.rows (l.take i) ++ [e.cells] = Sm.rows (l.take (i + 1)) := by
      rw [Sm.rows_eq, Sm.rows_eq, List.take_add_one, he]; simp
    have hw : IntKind.i64.wrap ((i : Int) + 1) = ((i + 1 : Nat) : Int) := by rw [w64 (by omega) (by omega)]; rfl
    have hb : 2 * (i + 1) * 112 ≤ 281474976710656 := by omega
    obtain ⟨op, s, m, x, b, c, g⟩ := e
    simp only [Sm.cells] at hrow hnext
    have hcall := hf _ hmem
    simp only [Sm.cells] at hcall
    rw [l_tree_each_api_Stmt_0, M_loop, ← l_tree_each_api_Stmt_0]
    simp [b_tree_each_api_Stmt_0, h1, h5, h8, h9, h10, hi, hcl, hrow, hcall, hck, get0, set0, lt_tree_cloned, hnext, hw, hb]
    refine ih (i + 1) _ _ (by omega) (take_more hK hn _) (by simp; omega) ?_ ?_ ?_ ?_ ?_ <;> simp

/-- A list, every element cloned. -/
theorem each_stmt_eq (l : List Sm) (hl : l.length ≤ 20000) (hf : ∀ e ∈ l, ∀ K, eval tbl noExt n_tree_cloned [.agg e.cells] K = some (.agg e.cells, K)) (H : Heap) :
    eval tbl noExt n_tree_each_api_Stmt [.sl 7 (Sm.rows l), .fn (.func n_tree_cloned) [] []] H = some (.own 7 (Sm.rows l), H) := by
  have hcl : (Sm.rows l).length = l.length := by rw [Sm.rows_eq]; simp
  rw [eval_M rfl rfl t_tree_each_api_Stmt rfl]
  simp [c_tree_each_api_Stmt, hcl]
  refine each_stmt_loop _ _ H.length H l hl hf _ (fun φ' K hK hn h5 => by simp [r_tree_each_api_Stmt_0, h5, hK]) l.length 0 _ H (by omega) (by simp) (Nat.le_refl _) ?_ ?_ ?_ ?_ ?_ <;> simp [Sm.rows]


theorem cloned_eq : ∀ (n : Nat) (e : Sm), e.size ≤ n → n ≤ 20000 → ∀ H, eval tbl noExt n_tree_cloned [.agg e.cells] H = some (.agg e.cells, H) := by
  intro n
  induction n with
  | zero =>
    intro e h
    cases e
    simp only [Sm.size] at h; omega
  | succ n ih =>
    intro e h hn H
    obtain ⟨op, s, m, x, b, c, g⟩ := e
    simp only [Sm.size] at h
    have hx := Ex.sizes_ge x
    have hb := Sm.sizes_ge b
    have hc := Sm.sizes_ge c
    have he := each_expr_eq x (by omega) (fun e he K => clonedExpr_eq 20000 e (by have := Ex.sizes_mem he; omega) (by omega) K) []
    have he2 := each_stmt_eq b (by omega) (fun e he K => ih e (by have := Sm.sizes_mem he; omega) (by omega) K) []
    have he3 := each_stmt_eq c (by omega) (fun e he K => ih e (by have := Sm.sizes_mem he; omega) (by omega) K) []
    rw [eval_M rfl rfl t_tree_cloned rfl]
    simp [c_tree_cloned, Sm.cells, he, he2, he3, get0, get1, set0, set1]

end Go.AM.Spec

namespace Go.AM.Spec
set_option linter.unusedVariables false
set_option linter.unusedSimpArgs false
set_option maxHeartbeats 1000000
set_option maxRecDepth 10000

theorem Clone_1_eq (x : List UInt8 × List Sm) (h : Sm.sizes x.2 ≤ 20000) (K : Heap) : eval tbl noExt n_tree_Clone_1 [.agg (procCells x)] K = some (.agg (procCells x), K) := by
  obtain ⟨s, b⟩ := x
  have hl := Sm.sizes_ge b
  dsimp only at h
  have he := each_stmt_eq b (by omega) (fun e he K => cloned_eq 20000 e (by have := Sm.sizes_mem he; omega) (Nat.le_refl _) K) []
  rw [eval_M rfl rfl t_tree_Clone_1 rfl]
  simp [c_tree_Clone_1, procCells, he, get0, get1, set0, set1]
theorem Clone_2_eq (x : List UInt8 × Ex) (h : x.2.size ≤ 20000) (K : Heap) : eval tbl noExt n_tree_Clone_2 [.agg (oracleCells x)] K = some (.agg (oracleCells x), K) := by
  obtain ⟨s, b⟩ := x
  have he := clonedExpr_eq 20000 b h (Nat.le_refl _) []
  obtain ⟨a0, a1, a2, a3⟩ := b
  simp only [Ex.cells] at he
  rw [eval_M rfl rfl t_tree_Clone_2 rfl]
  simp [c_tree_Clone_2, oracleCells, Ex.cells, he, get0, get1, set0, set1]

theorem each_api_Proc_loop (call : CallF) (R : Option (V × Heap)) (n : Nat) (H : Heap) (l : List (List UInt8 × List Sm)) (hl : l.length ≤ 20000) (hf : ∀ e ∈ l, ∀ K, call n_tree_Clone_1 [.agg (procCells e)] K = some (.agg (procCells e), K)) (k : List Item)
    (hexit : ∀ φ' K, K.take n = H → n ≤ K.length → Fr.get φ' 5 = .own 2 (l.map procCells) → M call k φ' K = R) :
    ∀ (j i : Nat) (φ : Fr) (K : Heap), i + j = l.length → K.take n = H → n ≤ K.length → Fr.get φ 1 = .fn (.func n_tree_Clone_1) [] [] → Fr.get φ 5 = .own 2 ((l.take i).map procCells) → Fr.get φ 8 = .sl 2 (l.map procCells) → Fr.get φ 9 = .int .i64 l.length → Fr.get φ 10 = .int .i64 i →
      M call (.code l_tree_each_api_Proc_0 :: .blk 0 :: k) φ K = R := by
  intro j
  induction j with
  | zero =>
    intro i φ K hj hK hn h1 h5 h8 h9 h10
    have hi : ¬ ((i : Int) < l.length) := by omega
    have h5' : Fr.get φ 5 = .own 2 (l.map procCells) := by rw [h5, List.take_of_length_le (by omega)]
    rw [l_tree_each_api_Proc_0, M_loop, ← l_tree_each_api_Proc_0]
    simp [b_tree_each_api_Proc_0, h1, h5', h8, h9, h10, hi]
    exact hexit _ _ hK hn (by simp)
  | succ j ih =>
    intro i φ K hj hK hn h1 h5 h8 h9 h10
    have hi : (i : Int) < l.length := by omega
    have hil : i < l.length := by omega
    obtain ⟨e, he⟩ : ∃ e, l[i]? = some e := ⟨l[i], List.getElem?_eq_getElem hil⟩
    have hmem : e ∈ l := List.mem_of_getElem? he
    have hrow : (l.map procCells)[i]? = some (procCells e) := by rw [List.getElem?_map, he]; rfl
    have hcl : (l.map procCells).length = l.length := by simp
    have hck : ((l.take i).map procCells).length = i := by simp; omega
    have hnext : (l.take i).map procCells ++ [procCells e] = (l.take (i + 1)).map procCells := by
      rw [List.take_add_one, he]; simp
    have hw : IntKind.i64.wrap ((i : Int) + 1) = ((i + 1 : Nat) : Int) := by rw [w64 (by omega) (by omega)]; rfl
    have hb : 2 * (i + 1) * 40 ≤ 281474976710656 := by omega
    obtain ⟨a0, a1⟩ := e
    simp only [procCells] at hrow hnext
    have hcall := hf _ hmem
    simp only [procCells] at hcall
    generalize hR : (l.take i).map procCells = R at h5 hck hnext
    generalize hR' : (l.take (i + 1)).map procCells = R' at hnext
    rw [l_tree_each_api_Proc_0, M_loop, ← l_tree_each_api_Proc_0]
    simp [b_tree_each_api_Proc_0, h1, h5, h8, h9, h10, hi, hcl, hrow, hcall, hck, get0, set0, lt_tree_Clone_1, hnext, hw, hb]
    refine ih (i + 1) _ _ (by omega) (take_more hK hn _) (by simp; omega) ?_ ?_ ?_ ?_ ?_ <;> simp [-List.map_take, hR']

/-- A list, every element cloned. -/
theorem each_api_Proc_eq (l : List (List UInt8 × List Sm)) (hl : l.length ≤ 20000) (hf : ∀ e ∈ l, ∀ K, eval tbl noExt n_tree_Clone_1 [.agg (procCells e)] K = some (.agg (procCells e), K)) (H : Heap) :
    eval tbl noExt n_tree_each_api_Proc [.sl 2 (l.map procCells), .fn (.func n_tree_Clone_1) [] []] H = some (.own 2 (l.map procCells), H) := by
  have hcl : (l.map procCells).length = l.length := by simp
  rw [eval_M rfl rfl t_tree_each_api_Proc rfl]
  simp [c_tree_each_api_Proc, hcl]
  refine each_api_Proc_loop _ _ H.length H l hl hf _ (fun φ' K hK hn h5 => by simp [r_tree_each_api_Proc_0, h5, hK]) l.length 0 _ H (by omega) (by simp) (Nat.le_refl _) ?_ ?_ ?_ ?_ ?_ <;> simp


theorem each_api_Oracle_loop (call : CallF) (R : Option (V × Heap)) (n : Nat) (H : Heap) (l : List (List UInt8 × Ex)) (hl : l.length ≤ 20000) (hf : ∀ e ∈ l, ∀ K, call n_tree_Clone_2 [.agg (oracleCells e)] K = some (.agg (oracleCells e), K)) (k : List Item)
    (hexit : ∀ φ' K, K.take n = H → n ≤ K.length → Fr.get φ' 5 = .own 5 (l.map oracleCells) → M call k φ' K = R) :
    ∀ (j i : Nat) (φ : Fr) (K : Heap), i + j = l.length → K.take n = H → n ≤ K.length → Fr.get φ 1 = .fn (.func n_tree_Clone_2) [] [] → Fr.get φ 5 = .own 5 ((l.take i).map oracleCells) → Fr.get φ 8 = .sl 5 (l.map oracleCells) → Fr.get φ 9 = .int .i64 l.length → Fr.get φ 10 = .int .i64 i →
      M call (.code l_tree_each_api_Oracle_0 :: .blk 0 :: k) φ K = R := by
  intro j
  induction j with
  | zero =>
    intro i φ K hj hK hn h1 h5 h8 h9 h10
    have hi : ¬ ((i : Int) < l.length) := by omega
    have h5' : Fr.get φ 5 = .own 5 (l.map oracleCells) := by rw [h5, List.take_of_length_le (by omega)]
    rw [l_tree_each_api_Oracle_0, M_loop, ← l_tree_each_api_Oracle_0]
    simp [b_tree_each_api_Oracle_0, h1, h5', h8, h9, h10, hi]
    exact hexit _ _ hK hn (by simp)
  | succ j ih =>
    intro i φ K hj hK hn h1 h5 h8 h9 h10
    have hi : (i : Int) < l.length := by omega
    have hil : i < l.length := by omega
    obtain ⟨e, he⟩ : ∃ e, l[i]? = some e := ⟨l[i], List.getElem?_eq_getElem hil⟩
    have hmem : e ∈ l := List.mem_of_getElem? he
    have hrow : (l.map oracleCells)[i]? = some (oracleCells e) := by rw [List.getElem?_map, he]; rfl
    have hcl : (l.map oracleCells).length = l.length := by simp
    have hck : ((l.take i).map oracleCells).length = i := by simp; omega
    have hnext : (l.take i).map oracleCells ++ [oracleCells e] = (l.take (i + 1)).map oracleCells := by
      rw [List.take_add_one, he]; simp
    have hw : IntKind.i64.wrap ((i : Int) + 1) = ((i + 1 : Nat) : Int) := by rw [w64 (by omega) (by omega)]; rfl
    have hb : 2 * (i + 1) * 72 ≤ 281474976710656 := by omega
    obtain ⟨a, ⟨a0, a1, a2, a3⟩⟩ := e
    simp only [oracleCells, Ex.cells] at hrow hnext
    have hcall := hf _ hmem
    simp only [oracleCells, Ex.cells] at hcall
    generalize hR : (l.take i).map oracleCells = R at h5 hck hnext
    generalize hR' : (l.take (i + 1)).map oracleCells = R' at hnext
    rw [l_tree_each_api_Oracle_0, M_loop, ← l_tree_each_api_Oracle_0]
    simp [b_tree_each_api_Oracle_0, h1, h5, h8, h9, h10, hi, hcl, hrow, hcall, hck, get0, set0, lt_tree_Clone_2, hnext, hw, hb]
    refine ih (i + 1) _ _ (by omega) (take_more hK hn _) (by simp; omega) ?_ ?_ ?_ ?_ ?_ <;> simp [-List.map_take, hR']

/-- A list, every element cloned. -/
theorem each_api_Oracle_eq (l : List (List UInt8 × Ex)) (hl : l.length ≤ 20000) (hf : ∀ e ∈ l, ∀ K, eval tbl noExt n_tree_Clone_2 [.agg (oracleCells e)] K = some (.agg (oracleCells e), K)) (H : Heap) :
    eval tbl noExt n_tree_each_api_Oracle [.sl 5 (l.map oracleCells), .fn (.func n_tree_Clone_2) [] []] H = some (.own 5 (l.map oracleCells), H) := by
  have hcl : (l.map oracleCells).length = l.length := by simp
  rw [eval_M rfl rfl t_tree_each_api_Oracle rfl]
  simp [c_tree_each_api_Oracle, hcl]
  refine each_api_Oracle_loop _ _ H.length H l hl hf _ (fun φ' K hK hn h5 => by simp [r_tree_each_api_Oracle_0, h5, hK]) l.length 0 _ H (by omega) (by simp) (Nat.le_refl _) ?_ ?_ ?_ ?_ ?_ <;> simp



theorem Clone_eq (p : Pg) (h : p.size ≤ 20000) : eval tbl noExt n_tree_Clone [.agg p.cells] [] = some (.agg p.cells, []) := by
  obtain ⟨hp, ho, hpl, hol, hm, hr⟩ := p.small h
  have hml := Sm.sizes_ge p.main
  have hrl := Sm.sizes_ge p.recover
  have e0 := each_api_Proc_eq p.procs (by omega) (fun x hx K => Clone_1_eq x (hp x hx) K) []
  have e1 := each_stmt_eq p.main (by omega) (fun e he K => cloned_eq 20000 e (by have := Sm.sizes_mem he; omega) (Nat.le_refl _) K) []
  have e2 := each_stmt_eq p.recover (by omega) (fun e he K => cloned_eq 20000 e (by have := Sm.sizes_mem he; omega) (Nat.le_refl _) K) []
  have e3 := each_api_Oracle_eq p.oracles (by omega) (fun x hx K => Clone_2_eq x (ho x hx) K) []
  have hpc : p.cells = [.sl 2 (p.procs.map procCells), .sl 7 (Sm.rows p.main), .sl 7 (Sm.rows p.recover), .sl 5 (p.oracles.map oracleCells)] := rfl
  rw [eval_M rfl rfl t_tree_Clone rfl, hpc]
  simp [c_tree_Clone, e0, e1, e2, e3, get0, get1, set0, set1]

end Go.AM.Spec

namespace Go.AM.Spec
set_option linter.unusedVariables false
set_option linter.unusedSimpArgs false
set_option maxHeartbeats 400000
set_option maxRecDepth 10000

/-! ## A list whose rows can be written -/

theorem Sm.flat_cells (l : List Sm) : (Sm.rows l).flatten.length = l.length * 7 := by
  induction l with
  | nil => rfl
  | cons e l ih => cases e; simp only [Sm.rows, List.flatten_cons, List.length_append, ih, Sm.cells, List.length_cons, List.length_nil]; omega

/-- A list of statements that lies behind n blocks. -/
def LV (n : Nat) (L : Heap) (v : V) (l : List Sm) : Prop :=
  (l = [] ∧ v = .nils 7) ∨ ∃ q, l ≠ [] ∧ v = .mg 7 (n + q) 0 l.length l.length ∧ L[q]? = some (some (Sm.rows l).flatten)

theorem eachw_loop (call : CallF) (n : Nat) (H : Heap) (hH : H.length = n) (l : List Sm) (hl : l.length ≤ 20000) (hf : ∀ e ∈ l, ∀ K, call n_tree_cloned [.agg e.cells] K = some (.agg e.cells, K)) (Q : Option (V × Heap) → Prop) (k : List Item)
    (hexit : ∀ φ' L v, LV n L v l → Fr.get φ' 5 = v → Q (M call k φ' (H ++ L))) :
    ∀ (j i : Nat) (φ : Fr) (K L : Heap) (v : V), K = H ++ L → i + j = l.length → LV n L v (l.take i) → Fr.get φ 1 = .fn (.func n_tree_cloned) [] [] → Fr.get φ 5 = v → Fr.get φ 8 = .sl 7 (Sm.rows l) → Fr.get φ 9 = .int .i64 l.length → Fr.get φ 10 = .int .i64 i →
      Q (M call (.code l_tree_each_api_Stmt_w_0 :: .blk 0 :: k) φ K) := by
  intro j
  induction j with
  | zero =>
    rintro i φ _ L v rfl hj hv h1 h5 h8 h9 h10
    have hi : ¬ ((i : Int) < l.length) := by omega
    rw [List.take_of_length_le (by omega)] at hv
    rw [l_tree_each_api_Stmt_w_0, M_loop, ← l_tree_each_api_Stmt_w_0]
    simp [b_tree_each_api_Stmt_w_0, h1, h8, h9, h10, hi]
    exact hexit _ L v hv (by simp [h5])
  | succ j ih =>
    rintro i φ _ L v rfl hj hv h1 h5 h8 h9 h10
    have hi : (i : Int) < l.length := by omega
    have hil : i < l.length := by omega
    obtain ⟨e, he⟩ : ∃ e, l[i]? = some e := ⟨l[i], List.getElem?_eq_getElem hil⟩
    have hmem : e ∈ l := List.mem_of_getElem? he
    have hrow : (Sm.rows l)[i]? = some e.cells := by rw [Sm.rows_eq, List.getElem?_map, he]; rfl
    have hcl : (Sm.rows l).length = l.length := by rw [Sm.rows_eq]; simp
    have hti : (l.take i).length = i := by simp; omega
    have htl : (l.take (i + 1)).length = i + 1 := by simp; omega
    have hnext : (Sm.rows (l.take (i + 1))).flatten = (Sm.rows (l.take i)).flatten ++ e.cells := by
      rw [Sm.rows_eq, Sm.rows_eq, List.take_add_one, he]; simp
    have hne : l.take (i + 1) ≠ [] := fun h => by rw [h] at htl; simp at htl
    have hlen := Sm.flat_cells (l.take i)
    rw [hti] at hlen
    have hw : IntKind.i64.wrap ((i : Int) + 1) = ((i + 1 : Nat) : Int) := by rw [w64 (by omega) (by omega)]; rfl
    have hb : 2 * (i + 1) * 112 ≤ 281474976710656 := by omega
    have hni : ¬ (i + 1 ≤ i) := by omega
    have hnx := ih (i + 1)
    obtain ⟨op, s, m, x, b, c, g⟩ := e
    simp only [Sm.cells] at hrow hnext
    have hcall := hf _ hmem
    simp only [Sm.cells] at hcall
    have gA : ∀ (a : Option (List V)) (r : Heap), (H ++ (L ++ a :: r))[H.length + L.length]? = some a := fun a r => by
      rw [List.getElem?_append_right (by omega), show H.length + L.length - H.length = L.length by omega, get0]
    have gB : ∀ (a b : Option (List V)) (r : Heap), (H ++ (L ++ a :: b :: r))[H.length + L.length + 1]? = some b := fun a b r => by
      rw [List.getElem?_append_right (by omega), show H.length + L.length + 1 - H.length = L.length + 1 by omega, get1]
    have sA : ∀ (a c : Option (List V)) (r : Heap), (H ++ (L ++ a :: r)).set (H.length + L.length) c = H ++ (L ++ c :: r) := fun a c r => by
      rw [List.set_append_right _ _ (by omega), show H.length + L.length - H.length = L.length by omega, set0]
    rw [l_tree_each_api_Stmt_w_0, M_loop, ← l_tree_each_api_Stmt_w_0]
    rcases hv with ⟨hl0, rfl⟩ | ⟨q, hl0, rfl, hq⟩
    · rw [hl0] at hnext
      simp only [Sm.rows, List.flatten_nil, List.nil_append] at hnext
      simp [b_tree_each_api_Stmt_w_0, h1, h5, h8, h9, h10, hi, hcl, hrow, hcall, gA, gB, sA, lt_tree_cloned, hw, appM]
      have hi0 : i = 0 := by rw [hl0] at hti; simpa using hti.symm
      refine hnx _ _ _ _ rfl (by omega) (.inr ⟨L.length + 2, hne, rfl, ?_⟩) (by simp [h1]) ?_ (by simp [h8]) (by simp [h9]) (by simp)
      · rw [hnext, List.getElem?_append_right (by omega)]; simp
      · rw [htl, hi0]; simp [hH]
    · have hql : q < L.length := by
        rcases Nat.lt_or_ge q L.length with h | h
        · exact h
        · rw [List.getElem?_eq_none h] at hq; cases hq
      have hq2 : ∀ r : Heap, (H ++ (L ++ r))[n + q]? = some (some (Sm.rows (l.take i)).flatten) := fun r => by
        rw [List.getElem?_append_right (by omega), show n + q - H.length = q by omega, List.getElem?_append_left hql, hq]
      have hset : ∀ M : Heap, (H ++ M).set (n + q) none = H ++ M.set q none := fun M => by
        rw [List.set_append_right _ _ (by omega), show n + q - H.length = q by omega]
      simp [b_tree_each_api_Stmt_w_0, h1, h5, h8, h9, h10, hi, hcl, hrow, hcall, gA, gB, sA, lt_tree_cloned, hw, hb, appM, hq2, hti, hlen, hni]
      rw [hset, List.append_assoc]
      refine hnx _ _ _ _ rfl (by omega) (.inr ⟨L.length + 2, hne, rfl, ?_⟩) (by simp [h1]) ?_ (by simp [h8]) (by simp [h9]) (by simp)
      · rw [hnext, List.getElem?_append_right (by simp), List.take_of_length_le (Nat.le_of_eq hlen)]; simp
      · rw [htl]; simp [hH]

/-- A list, every element cloned; it can be written. -/
theorem eachw_eq (l : List Sm) (hl : l.length ≤ 20000) (hf : ∀ e ∈ l, ∀ K, eval tbl noExt n_tree_cloned [.agg e.cells] K = some (.agg e.cells, K)) (H : Heap) :
    ∃ v L, eval tbl noExt (wNo n_tree_each_api_Stmt) [.sl 7 (Sm.rows l), .fn (.func n_tree_cloned) [] []] H = some (v, H ++ L) ∧ LV H.length L v l := by
  have hcl : (Sm.rows l).length = l.length := by rw [Sm.rows_eq]; simp
  rw [eval_W tw_tree_each_api_Stmt rfl]
  simp [c_tree_each_api_Stmt_w, hcl]
  refine eachw_loop (eval tbl noExt) H.length H rfl l hl hf (fun o => ∃ v L, o = some (v, H ++ L) ∧ LV H.length L v l) _ (fun φ' L v hv h5 => ⟨v, L, ?_, hv⟩) l.length 0 _ _ [] (.nils 7) (by simp) (by omega) (.inl ⟨rfl, rfl⟩) (by simp) (by simp) (by simp) (by simp) (by simp)
  rcases hv with ⟨_, rfl⟩ | ⟨q, _, rfl, _⟩ <;> simp [r_tree_each_api_Stmt_w_0, h5]

/-- The same, where an empty list has been read. -/
def LS (n : Nat) (L : Heap) (v : V) (l : List Sm) : Prop :=
  (l = [] ∧ v = .sl 7 []) ∨ ∃ q, l ≠ [] ∧ v = .mg 7 (n + q) 0 l.length l.length ∧ L[q]? = some (some (Sm.rows l).flatten)

theorem Clonew_eq (p : Pg) (h : p.size ≤ 20000) :
    ∃ v L a b, eval tbl noExt (wNo n_tree_Clone) [.agg p.cells] [none] = some (.agg [.sl 2 (p.procs.map procCells), v, .sl 7 (Sm.rows p.recover), .sl 5 (p.oracles.map oracleCells)], none :: a :: b :: L) ∧ LS 3 L v p.main := by
  obtain ⟨hp, ho, hpl, hol, hm, hr⟩ := p.small h
  have hml := Sm.sizes_ge p.main
  have hrl := Sm.sizes_ge p.recover
  have e0 := each_api_Proc_eq p.procs (by omega) (fun x hx K => Clone_1_eq x (hp x hx) K) []
  have e2 := each_stmt_eq p.recover (by omega) (fun e he K => cloned_eq 20000 e (by have := Sm.sizes_mem he; omega) (Nat.le_refl _) K) []
  have e3 := each_api_Oracle_eq p.oracles (by omega) (fun x hx K => Clone_2_eq x (ho x hx) K) []
  obtain ⟨v, L, hv, hL⟩ := eachw_eq p.main (by omega) (fun e he K => cloned_eq 20000 e (by have := Sm.sizes_mem he; omega) (Nat.le_refl _) K) [none, none, none]
  have hpc : p.cells = [.sl 2 (p.procs.map procCells), .sl 7 (Sm.rows p.main), .sl 7 (Sm.rows p.recover), .sl 5 (p.oracles.map oracleCells)] := rfl
  have hLS : LS 3 L v.strip p.main := by
    rcases hL with ⟨h0, rfl⟩ | ⟨q, h0, rfl, h1⟩
    · exact .inl ⟨h0, rfl⟩
    · exact .inr ⟨q, h0, rfl, h1⟩
  refine ⟨v.strip, L, some p.cells, some [.sl 2 (p.procs.map procCells), v.strip, .sl 7 (Sm.rows p.recover), .sl 5 (p.oracles.map oracleCells)], ?_, hLS⟩
  rw [eval_W tw_tree_Clone rfl, hpc]
  rcases hL with ⟨_, rfl⟩ | ⟨q, _, rfl, _⟩ <;> simp [c_tree_Clone_w, e0, hv, e2, e3, callOwn, V.strip]

/-! ## What is read of it -/

theorem frzL_id {f : Heap → V → Option (V × Heap)} {H : Heap} : ∀ {cs : List V}, (∀ v ∈ cs, f H v = some (v, H)) → frzL f H cs = some (cs, H)
  | [], _ => rfl
  | c :: cs, h => by simp only [frzL, h c (by simp), frzL_id (cs := cs) (fun v hv => h v (by simp [hv]))]

theorem frzV_cell (n : Nat) (H : Heap) (l : List Sm) : ∀ v ∈ (Sm.rows l).flatten, frzV (n + 1) H v = some (v, H) := by
  intro v hv
  rw [Sm.rows_eq, List.mem_flatten] at hv
  obtain ⟨r, hr, hv⟩ := hv
  obtain ⟨e, _, rfl⟩ := List.mem_map.1 hr
  cases e
  simp only [Sm.cells, List.mem_cons, List.not_mem_nil, or_false] at hv
  rcases hv with rfl | rfl | rfl | rfl | rfl | rfl | rfl <;> simp [frzV]

theorem rows_width (l : List Sm) : ∀ r ∈ Sm.rows l, r.length = 7 := by
  intro r hr
  rw [Sm.rows_eq] at hr
  obtain ⟨e, _, rfl⟩ := List.mem_map.1 hr
  cases e; rfl

theorem chunk_rows (l : List Sm) : chunk 7 (Sm.rows l).flatten 0 l.length = Sm.rows l := by
  have := chunk_flatten (k := 7) (rows := Sm.rows l) [] (rows_width l)
  rw [Sm.rows_len] at this
  simpa using this

theorem frz_LS {H L : Heap} {n : Nat} {v : V} {l : List Sm} (h : LS n L v l) (hH : ∀ q c, L[q]? = some c → H[n + q]? = some c) : ∃ K, frzV deepest H v = some (.sl 7 (Sm.rows l), K) := by
  rcases h with ⟨rfl, rfl⟩ | ⟨q, h0, rfl, hq⟩
  · exact ⟨H, rfl⟩
  · have h1 := hH q _ hq
    have hl := Sm.flat_cells l
    refine ⟨H.set (n + q) none, ?_⟩
    have hd : deepest = 99998 + 1 + 1 := rfl
    rw [hd, frzV, h1]
    simp only
    rw [if_pos (by omega), List.drop_zero, List.take_of_length_le (by omega), frzL_id (frzV_cell 99998 _ l)]
    simp only [chunk_rows]

/-- A program read, its Main out of memory. -/
theorem frz_pg {H L : Heap} {n : Nat} {v : V} {p : Pg} {l : List Sm} (h : LS n L v l) (hH : ∀ q c, L[q]? = some c → H[n + q]? = some c) :
    ∃ K, frzA H (.agg [.sl 2 (p.procs.map procCells), v, .sl 7 (Sm.rows p.recover), .sl 5 (p.oracles.map oracleCells)]) = some (.agg ({ p with main := l } : Pg).cells, K) := by
  obtain ⟨K, hK⟩ := frz_LS h hH
  have hd : deepest = 99999 + 1 := rfl
  refine ⟨K, ?_⟩
  unfold frzA
  simp only [frzL]
  have e1 : ∀ (H : Heap) k r, frzV deepest H (.sl k r) = some (.sl k r, H) := fun H k r => by rw [hd]; simp [frzV]
  simp only [e1, hK, Option.map_some]
  rfl

theorem frz_plain (H : Heap) (p : Pg) : frzA H (.agg p.cells) = some (.agg p.cells, H) := by
  have hd : deepest = 99999 + 1 := rfl
  have e1 : ∀ (H : Heap) k r, frzV deepest H (.sl k r) = some (.sl k r, H) := fun H k r => by rw [hd]; simp [frzV]
  unfold frzA Pg.cells
  simp only [frzL, e1, Option.map_some]

def Sm.flip : Sm → Sm
  | .mk op s n e b c k => .mk op s n e b c (!k)

theorem rows_flip : ∀ (l : List Sm) (k : Nat) (e : Sm) (op : Int) (s : List UInt8) (n : Int) (x : List Ex) (b c : List Sm) (g : Bool), l[k]? = some (.mk op s n x b c g) →
    (Sm.rows l).flatten.set (k * 7 + 6) (.bool (!g)) = (Sm.rows (l.set k (.mk op s n x b c (!g)))).flatten ∧ (Sm.rows l).flatten[k * 7 + 6]? = some (.bool g)
  | [], k, _, _, _, _, _, _, _, _, h => by simp at h
  | e :: l, 0, _, op, s, n, x, b, c, g, h => by
    simp only [List.getElem?_cons_zero, Option.some.injEq] at h
    subst h
    simp [Sm.rows, Sm.cells]
  | e :: l, k + 1, e0, op, s, n, x, b, c, g, h => by
    simp only [List.getElem?_cons_succ] at h
    obtain ⟨h1, h2⟩ := rows_flip l k e0 op s n x b c g h
    have hl : e.cells.length = 7 := by cases e; rfl
    simp only [Sm.rows, List.flatten_cons, List.set_cons_succ]
    rw [List.set_append_right _ _ (by omega), List.getElem?_append_right (by omega), hl, show (k + 1) * 7 + 6 - 7 = k * 7 + 6 by omega, h1, h2]
    exact ⟨rfl, rfl⟩

end Go.AM.Spec
