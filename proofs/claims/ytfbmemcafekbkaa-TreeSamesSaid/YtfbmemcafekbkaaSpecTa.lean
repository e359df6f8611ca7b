/-
  The parts of this proof that speak of the functions one by one.
-/
import Derived.Test.YtfbmemcafekbkaaAlt
import Derived.Test.YtfbmemcafekbkaaCheck
import Derived.Test.YtfbmemcafekbkaaSpc
import Derived.Test.YtfbmemcafekbkaaOpX
namespace Go.AM.Spec
set_option maxRecDepth 100000

def b_flotsamlaw16_TreeSames_w_0 : AC :=
  .seq (.seq (.reg [⟨some 51, none, .mv (.t 7)⟩, ⟨some 52, none, .fa 0 (.t 5)⟩, ⟨some 53, none, .ld none (.t 52)⟩, ⟨some 54, none, .len false (.t 53)⟩, ⟨some 55, none, .ic .lss (.t 51) (.t 54)⟩])
    (.cond (.t 55)
      (.skip)
      (.exit 0)))
  (.seq (.block 1 (.seq (.reg [⟨some 58, none, .fa 0 (.t 5)⟩, ⟨some 59, none, .ld none (.t 58)⟩, ⟨some 60, none, .mv (.t 7)⟩, ⟨some 61, none, .ixa 2 none (.t 59) (.t 60)⟩, ⟨some 62, none, .fa 1 (.t 61)⟩, ⟨some 63, none, .ld none (.t 62)⟩, ⟨some 64, none, .callk n_flotsamlaw16_wipe [(.t 63)]⟩])
      (.reg [⟨some 65, none, .fa 0 (.t 5)⟩, ⟨some 66, none, .ld none (.t 65)⟩, ⟨some 67, none, .mv (.t 7)⟩, ⟨some 68, none, .bld [.str [], .sl 7 []] []⟩, ⟨some 69, none, .ixa 2 none (.t 66) (.t 67)⟩, ⟨none, none, .stw 2 (.t 69) (.t 68)⟩])))
  (.reg [⟨some 56, none, .mv (.t 7)⟩, ⟨some 57, none, .ia .add .i64 (.t 56) (.c (.int .i64 1))⟩, ⟨some 7, none, .tk (.t 57)⟩]))

def l_flotsamlaw16_TreeSames_w_0 : AC :=
  .loop [2, 5, 6, 7] b_flotsamlaw16_TreeSames_w_0

def b_flotsamlaw16_TreeSames_w_1 : AC :=
  .seq (.seq (.reg [⟨some 70, none, .mv (.t 8)⟩, ⟨some 71, none, .fa 3 (.t 5)⟩, ⟨some 72, none, .ld none (.t 71)⟩, ⟨some 73, none, .len false (.t 72)⟩, ⟨some 74, none, .ic .lss (.t 70) (.t 73)⟩])
    (.cond (.t 74)
      (.skip)
      (.exit 2)))
  (.seq (.block 3 (.seq (.reg [⟨some 77, none, .fa 3 (.t 5)⟩, ⟨some 78, none, .ld none (.t 77)⟩, ⟨some 79, none, .mv (.t 8)⟩, ⟨some 80, none, .ixa 5 none (.t 78) (.t 79)⟩, ⟨some 81, none, .fa 1 (.t 80)⟩, ⟨some 82, none, .ld (some 4) (.t 81)⟩, ⟨some 83, none, .bsl 4 [.int .i64 0, .int .i64 0, .str [], .sl 4 []] 1 [(0, 4, (.t 82))] true⟩, ⟨some 84, none, .callk n_flotsamlaw16_wipeExprs [(.t 83)]⟩])
      (.reg [⟨some 85, none, .fa 3 (.t 5)⟩, ⟨some 86, none, .ld none (.t 85)⟩, ⟨some 87, none, .mv (.t 8)⟩, ⟨some 88, none, .bld [.str [], .int .i64 0, .int .i64 0, .str [], .sl 4 []] []⟩, ⟨some 89, none, .ixa 5 none (.t 86) (.t 87)⟩, ⟨none, none, .stw 5 (.t 89) (.t 88)⟩])))
  (.reg [⟨some 75, none, .mv (.t 8)⟩, ⟨some 76, none, .ia .add .i64 (.t 75) (.c (.int .i64 1))⟩, ⟨some 8, none, .tk (.t 76)⟩]))

def l_flotsamlaw16_TreeSames_w_1 : AC :=
  .loop [2, 5, 6, 8] b_flotsamlaw16_TreeSames_w_1

def r_flotsamlaw16_TreeSames_w_0 : AC :=
  .seq (.reg [⟨some 90, none, .ld (some 4) (.t 2)⟩, ⟨some 91, none, .ld (some 4) (.t 6)⟩, ⟨some 92, none, .callb n_flotsamref16_Same [(.t 90), (.t 91)]⟩, ⟨some 93, none, .mv (.t 92)⟩, ⟨some 94, (some (93, true)), .ld (some 4) (.t 2)⟩, ⟨some 95, (some (93, true)), .ld (some 4) (.t 6)⟩, ⟨some 96, (some (93, true)), .callb n_tree_Same [(.t 94), (.t 95)]⟩, ⟨some 97, none, .pick (.t 93) (.t 96) (.c (.bool false))⟩, ⟨some 4, none, .tk (.t 97)⟩])
  (.ret)

def r_flotsamlaw16_TreeSames_w_1 : AC :=
  .seq (.seq (.reg [⟨some 8, none, .tk (.c (.int .i64 0))⟩])
    (.block 2 (l_flotsamlaw16_TreeSames_w_1))) r_flotsamlaw16_TreeSames_w_0

def o_flotsamlaw16_TreeSames : List AOper := [⟨some 22, none, .ld (some 4) (.t 2)⟩, ⟨some 23, none, .callx (wNo n_tree_Clone) [(.t 22)]⟩, ⟨some 24, none, .ld (some 4) (.t 2)⟩, ⟨some 25, none, .callc n_flotsamref16_Copy [(.t 24)]⟩, ⟨some 5, none, .alloc [.own 2 [], .own 7 [], .own 7 [], .own 5 []]⟩, ⟨some 6, none, .alloc [.own 2 [], .own 7 [], .own 7 [], .own 5 []]⟩, ⟨none, none, .stw 4 (.t 5) (.t 23)⟩, ⟨none, none, .stw 4 (.t 6) (.t 25)⟩]

def p0_flotsamlaw16_TreeSames : AC := (.reg [⟨some 2, none, .box (.t 0)⟩, ⟨some 3, none, .box (.t 1)⟩, ⟨some 4, none, .tk (.c (.bool false))⟩])

def p1_flotsamlaw16_TreeSames : AC := (.seq (.reg [⟨some 9, none, .ld (some 4) (.t 2)⟩, ⟨some 10, none, .callc n_flotsamlaw16_Small [(.t 9)]⟩, ⟨some 11, none, .notb (.t 10)⟩, ⟨some 12, none, .mv (.t 11)⟩, ⟨some 13, (some (12, false)), .ld (some 4) (.t 3)⟩, ⟨some 14, (some (12, false)), .callc n_flotsamlaw16_Small [(.t 13)]⟩, ⟨some 15, (some (12, false)), .notb (.t 14)⟩, ⟨some 16, none, .pick (.t 12) (.c (.bool true)) (.t 15)⟩, ⟨some 17, none, .mv (.t 16)⟩, ⟨some 18, (some (17, false)), .callc n_flotsamlaw16_knows []⟩, ⟨some 19, (some (17, false)), .notb (.t 18)⟩, ⟨some 20, none, .pick (.t 17) (.c (.bool true)) (.t 19)⟩])
      (.cond (.t 20)
        (.seq (.reg [⟨some 21, none, .callc n_flotsamlaw16_knows []⟩, ⟨some 4, none, .tk (.t 21)⟩])
          (.ret))
        (.skip)))

def p3_flotsamlaw16_TreeSames : AC := (.seq (.seq (.drw [[], [], [], [], [], [], [], [], [], [], [], [], [], [], [], [], [], [], []] [⟨some 26, none, .ld (some 4) (.t 2)⟩, ⟨some 27, none, .ld (some 4) (.t 3)⟩, ⟨some 28, none, .callb n_tree_Same [(.t 26), (.t 27)]⟩, ⟨some 29, none, .ld (some 4) (.t 2)⟩, ⟨some 30, none, .ld (some 4) (.t 3)⟩, ⟨some 31, none, .callb n_flotsamref16_Same [(.t 29), (.t 30)]⟩, ⟨some 32, none, .eqb true (.t 28) (.t 31)⟩, ⟨some 33, none, .mv (.t 32)⟩, ⟨some 34, (some (33, false)), .ld (some 4) (.t 2)⟩, ⟨some 35, (some (33, false)), .ld (some 4) (.t 5)⟩, ⟨some 36, (some (33, false)), .callb n_tree_Same [(.t 34), (.t 35)]⟩, ⟨some 37, (some (33, false)), .notb (.t 36)⟩, ⟨some 38, none, .pick (.t 33) (.c (.bool true)) (.t 37)⟩, ⟨some 39, none, .mv (.t 38)⟩, ⟨some 40, (some (39, false)), .ld (some 4) (.t 2)⟩, ⟨some 41, (some (39, false)), .ld (some 4) (.t 5)⟩, ⟨some 42, (some (39, false)), .callb n_flotsamref16_Same [(.t 40), (.t 41)]⟩, ⟨some 43, (some (39, false)), .notb (.t 42)⟩, ⟨some 44, none, .pick (.t 39) (.c (.bool true)) (.t 43)⟩])
      (.cond (.t 44)
        (.seq (.reg [⟨some 4, none, .tk (.c (.bool false))⟩])
          (.ret))
        (.skip)))
    (.seq (.reg [⟨some 45, none, .fa 1 (.t 5)⟩, ⟨some 46, none, .ld none (.t 45)⟩, ⟨some 47, none, .callk n_flotsamlaw16_wipe [(.t 46)]⟩])
    (.seq (.reg [⟨some 48, none, .fa 2 (.t 5)⟩, ⟨some 49, none, .ld none (.t 48)⟩, ⟨some 50, none, .callk n_flotsamlaw16_wipe [(.t 49)]⟩])
    (.seq (.seq (.reg [⟨some 7, none, .tk (.c (.int .i64 0))⟩])
      (.block 0 (l_flotsamlaw16_TreeSames_w_0))) r_flotsamlaw16_TreeSames_w_1))))

def k_flotsamlaw16_TreeSames : AK := .seq (.code p0_flotsamlaw16_TreeSames) (.seq (.code p1_flotsamlaw16_TreeSames) (.seq (.alt o_flotsamlaw16_TreeSames) (.code p3_flotsamlaw16_TreeSames)))

end Go.AM.Spec

namespace Go.AM.Spec
set_option linter.unusedVariables false
set_option linter.unusedSimpArgs false
set_option maxHeartbeats 1000000

inductive Ex where
  | mk (op n : Int) (s : List UInt8) (x : List Ex)

inductive Sm where
  | mk (op : Int) (s : List UInt8) (n : Int) (e : List Ex) (body els : List Sm) (commit : Bool)

mutual
def Ex.cells : Ex → List V
  | .mk op n s x => [.int .i64 op, .int .i64 n, .str s, .sl 4 (Ex.rows x)]
def Ex.rows : List Ex → List (List V)
  | [] => []
  | e :: l => e.cells :: Ex.rows l
end

mutual
def Sm.cells : Sm → List V
  | .mk op s n e b c k => [.int .i64 op, .str s, .int .i64 n, .sl 4 (Ex.rows e), .sl 7 (Sm.rows b), .sl 7 (Sm.rows c), .bool k]
def Sm.rows : List Sm → List (List V)
  | [] => []
  | e :: l => e.cells :: Sm.rows l
end

theorem Ex.rows_eq (l : List Ex) : Ex.rows l = l.map Ex.cells := by induction l with
  | nil => rfl
  | cons e l ih => simp [Ex.rows, ih]
theorem Sm.rows_eq (l : List Sm) : Sm.rows l = l.map Sm.cells := by induction l with
  | nil => rfl
  | cons e l ih => simp [Sm.rows, ih]

mutual
/-- How many expressions. -/
def Ex.size : Ex → Nat
  | .mk _ _ _ x => 1 + Ex.sizes x
def Ex.sizes : List Ex → Nat
  | [] => 0
  | e :: l => e.size + Ex.sizes l
end

mutual
def Sm.size : Sm → Nat
  | .mk _ _ _ e b c _ => 1 + Ex.sizes e + Sm.sizes b + Sm.sizes c
def Sm.sizes : List Sm → Nat
  | [] => 0
  | e :: l => e.size + Sm.sizes l
end

theorem Ex.sizes_ge : ∀ l : List Ex, l.length ≤ Ex.sizes l
  | [] => Nat.le_refl _
  | e :: l => by
    have := Ex.sizes_ge l
    cases e
    simp only [Ex.sizes, Ex.size, List.length_cons]; omega
theorem Sm.sizes_ge : ∀ l : List Sm, l.length ≤ Sm.sizes l
  | [] => Nat.le_refl _
  | e :: l => by
    have := Sm.sizes_ge l
    cases e
    simp only [Sm.sizes, Sm.size, List.length_cons]; omega
theorem Ex.sizes_mem : ∀ {l : List Ex} {e : Ex}, e ∈ l → e.size ≤ Ex.sizes l
  | [], _, h => by simp at h
  | x :: l, e, h => by
    simp only [Ex.sizes]
    rcases List.mem_cons.1 h with rfl | h
    · omega
    · have := Ex.sizes_mem h; omega
theorem Sm.sizes_mem : ∀ {l : List Sm} {e : Sm}, e ∈ l → e.size ≤ Sm.sizes l
  | [], _, h => by simp at h
  | x :: l, e, h => by
    simp only [Sm.sizes]
    rcases List.mem_cons.1 h with rfl | h
    · omega
    · have := Sm.sizes_mem h; omega

end Go.AM.Spec

namespace Go.AM.Spec
set_option linter.unusedVariables false
set_option linter.unusedSimpArgs false
set_option maxHeartbeats 1000000

mutual
/-- A statement, and those in it. -/
def Sm.flat : Sm → List Sm
  | .mk op s n e b c k => .mk op s n e b c k :: (Sm.flats b ++ Sm.flats c)
def Sm.flats : List Sm → List Sm
  | [] => []
  | e :: l => e.flat ++ Sm.flats l
end

theorem Sm.flats_append (a b : List Sm) : Sm.flats (a ++ b) = Sm.flats a ++ Sm.flats b := by
  induction a with
  | nil => rfl
  | cons e l ih => simp [Sm.flats, ih]

mutual
theorem Sm.flat_size : ∀ e : Sm, e.flat.length ≤ e.size
  | .mk op s n e b c k => by
    have := Sm.flats_sizes b
    have := Sm.flats_sizes c
    simp only [Sm.flat, Sm.size, List.length_cons, List.length_append]; omega
theorem Sm.flats_sizes : ∀ l : List Sm, (Sm.flats l).length ≤ Sm.sizes l
  | [] => Nat.le_refl _
  | e :: l => by
    have := Sm.flat_size e
    have := Sm.flats_sizes l
    simp only [Sm.flats, Sm.sizes, List.length_append]; omega
end

mutual
theorem Sm.flat_mem : ∀ (e x : Sm), x ∈ e.flat → x.size ≤ e.size
  | .mk op s n e b c k, x, h => by
    simp only [Sm.flat, List.mem_cons, List.mem_append] at h
    rcases h with rfl | h | h
    · exact Nat.le_refl _
    · have := Sm.flats_mem b x h; simp only [Sm.size]; omega
    · have := Sm.flats_mem c x h; simp only [Sm.size]; omega
theorem Sm.flats_mem : ∀ (l : List Sm) (x : Sm), x ∈ Sm.flats l → x.size ≤ Sm.sizes l
  | [], _, h => by simp [Sm.flats] at h
  | e :: l, x, h => by
    simp only [Sm.flats, List.mem_append] at h
    simp only [Sm.sizes]
    rcases h with h | h
    · have := Sm.flat_mem e x h; omega
    · have := Sm.flats_mem l x h; omega
end

theorem at_hp {hp : Heap} {m : Nat} (h : hp.length = m) (L : Heap) (k : Nat) : (hp ++ L)[m + k]? = L[k]? := by
  rw [List.getElem?_append_right (by omega)]; congr 1; omega
theorem set_hp {hp : Heap} {m : Nat} (h : hp.length = m) (L : Heap) (k : Nat) (v : Option (List V)) : (hp ++ L).set (m + k) v = hp ++ L.set k v := by
  rw [List.set_append_right _ _ (by omega)]; congr 2; omega
theorem take_hp {hp : Heap} {m : Nat} (h : hp.length = m) (L : Heap) (k : Nat) : (hp ++ L).take (m + k) = hp ++ L.take k := by
  rw [List.take_append, List.take_of_length_le (by omega)]; congr 2; omega

/-- The blocks in a statement. -/
def Sm.blocks : Sm → List (List Sm)
  | .mk _ _ _ _ b c _ => [b, c]

/-- A program. -/
structure Pg where
  procs : List (List UInt8 × List Sm)
  main : List Sm
  recover : List Sm
  oracles : List (List UInt8 × Ex)

def Pg.pcells (p : Pg) : List (List V) := p.procs.map fun x => [.str x.1, .sl 7 (Sm.rows x.2)]
def Pg.ocells (p : Pg) : List (List V) := p.oracles.map fun x => .str x.1 :: x.2.cells
def Pg.cells (p : Pg) : List V := [.sl 2 p.pcells, .sl 7 (Sm.rows p.main), .sl 7 (Sm.rows p.recover), .sl 5 p.ocells]
def Pg.psize (p : Pg) : Nat := (p.procs.map fun x => 1 + Sm.sizes x.2).sum
def Pg.osize (p : Pg) : Nat := (p.oracles.map fun x => 1 + x.2.size).sum
def Pg.size (p : Pg) : Nat := p.psize + Sm.sizes p.main + Sm.sizes p.recover + p.osize
def Pg.parts (p : Pg) : List (List Sm) := p.procs.map (·.2) ++ [p.main, p.recover]

def brow (b : List Sm) : List V := [.sl 7 (Sm.rows b)]

def Pg.flats (p : Pg) : List Sm := Sm.flats p.parts.flatten

theorem sizes_append (a b : List Sm) : Sm.sizes (a ++ b) = Sm.sizes a + Sm.sizes b := by
  induction a with
  | nil => simp [Sm.sizes]
  | cons e l ih => simp only [List.cons_append, Sm.sizes, ih]; omega

theorem Pg.parts_size (p : Pg) : Sm.sizes p.parts.flatten + p.procs.length ≤ p.size := by
  have h : ∀ l : List (List UInt8 × List Sm), Sm.sizes (l.map (·.2)).flatten + l.length = (l.map fun x => 1 + Sm.sizes x.2).sum := by
    intro l
    induction l with
    | nil => rfl
    | cons x l ih => simp only [List.map_cons, List.flatten_cons, sizes_append, List.length_cons, List.sum_cons]; omega
  have := h p.procs
  simp only [Pg.parts, List.flatten_append, sizes_append, Pg.size, Pg.psize, List.flatten_cons, List.flatten_nil, List.append_nil]
  omega

theorem sizes_flatten {bs : List (List Sm)} {b : List Sm} (h : b ∈ bs) : Sm.sizes b ≤ Sm.sizes bs.flatten := by
  induction bs with
  | nil => simp at h
  | cons x l ih =>
    simp only [List.flatten_cons, sizes_append]
    rcases List.mem_cons.1 h with rfl | h
    · omega
    · have := ih h; omega

theorem Pg.prow {p : Pg} {i : Nat} {e : List UInt8 × List Sm} (he : p.procs[i]? = some e) : p.pcells[i]? = some [.str e.1, .sl 7 (Sm.rows e.2)] := by rw [Pg.pcells, List.getElem?_map, he]; rfl
theorem Pg.pcells_len (p : Pg) : p.pcells.length = p.procs.length := by simp [Pg.pcells]
theorem Pg.ocells_len (p : Pg) : p.ocells.length = p.oracles.length := by simp [Pg.ocells]

def Sm.op : Sm → Int
  | .mk op _ _ _ _ _ _ => op

mutual
/-- Are two the same? -/
def Ex.same : Ex → Ex → Bool
  | .mk op n s x, .mk op' n' s' x' => op == op' && n == n' && s == s' && Ex.sames x x'
def Ex.sames : List Ex → List Ex → Bool
  | [], [] => true
  | a :: l, b :: m => a.same b && Ex.sames l m
  | _, _ => false
end

mutual
def Sm.same : Sm → Sm → Bool
  | .mk op s n e b c k, .mk op' s' n' e' b' c' k' => op == op' && s == s' && n == n' && k == k' && Ex.sames e e' && Sm.sames b b' && Sm.sames c c'
def Sm.sames : List Sm → List Sm → Bool
  | [], [] => true
  | a :: l, b :: m => a.same b && Sm.sames l m
  | _, _ => false
end

theorem Ex.sames_len {l m : List Ex} (h : l.length ≠ m.length) : Ex.sames l m = false := by
  induction l generalizing m with
  | nil => cases m with
    | nil => simp at h
    | cons => rfl
  | cons a l ih => cases m with
    | nil => rfl
    | cons b m => simp only [Ex.sames, ih (m := m) (fun e => h (by simp [e])), Bool.and_false]
theorem Sm.sames_len {l m : List Sm} (h : l.length ≠ m.length) : Sm.sames l m = false := by
  induction l generalizing m with
  | nil => cases m with
    | nil => simp at h
    | cons => rfl
  | cons a l ih => cases m with
    | nil => rfl
    | cons b m => simp only [Sm.sames, ih (m := m) (fun e => h (by simp [e])), Bool.and_false]

mutual
theorem Ex.same_rfl : ∀ e : Ex, e.same e = true
  | .mk op n s x => by simp [Ex.same, Ex.sames_rfl x]
theorem Ex.sames_rfl : ∀ l : List Ex, Ex.sames l l = true
  | [] => rfl
  | e :: l => by simp [Ex.sames, Ex.same_rfl e, Ex.sames_rfl l]
end
mutual
theorem Sm.same_rfl : ∀ e : Sm, e.same e = true
  | .mk op s n e b c k => by simp [Sm.same, Ex.sames_rfl e, Sm.sames_rfl b, Sm.sames_rfl c]
theorem Sm.sames_rfl : ∀ l : List Sm, Sm.sames l l = true
  | [] => rfl
  | e :: l => by simp [Sm.sames, Sm.same_rfl e, Sm.sames_rfl l]
end

mutual
theorem Ex.same_eq : ∀ a b : Ex, a.same b = true → a = b
  | .mk op n s x, .mk op' n' s' x', h => by
    simp only [Ex.same, Bool.and_eq_true, beq_iff_eq] at h
    obtain ⟨⟨⟨rfl, rfl⟩, rfl⟩, h⟩ := h
    rw [Ex.sames_eq x x' h]
theorem Ex.sames_eq : ∀ l m : List Ex, Ex.sames l m = true → l = m
  | [], [], _ => rfl
  | a :: l, b :: m, h => by
    simp only [Ex.sames, Bool.and_eq_true] at h
    rw [Ex.same_eq a b h.1, Ex.sames_eq l m h.2]
  | [], _ :: _, h => by simp [Ex.sames] at h
  | _ :: _, [], h => by simp [Ex.sames] at h
end
mutual
theorem Sm.same_eq : ∀ a b : Sm, a.same b = true → a = b
  | .mk op s n e b c k, .mk op' s' n' e' b' c' k', h => by
    simp only [Sm.same, Bool.and_eq_true, beq_iff_eq] at h
    obtain ⟨⟨⟨⟨⟨⟨rfl, rfl⟩, rfl⟩, rfl⟩, h1⟩, h2⟩, h3⟩ := h
    rw [Ex.sames_eq e e' h1, Sm.sames_eq b b' h2, Sm.sames_eq c c' h3]
theorem Sm.sames_eq : ∀ l m : List Sm, Sm.sames l m = true → l = m
  | [], [], _ => rfl
  | a :: l, b :: m, h => by
    simp only [Sm.sames, Bool.and_eq_true] at h
    rw [Sm.same_eq a b h.1, Sm.sames_eq l m h.2]
  | [], _ :: _, h => by simp [Sm.sames] at h
  | _ :: _, [], h => by simp [Sm.sames] at h
end

theorem Ex.rows_len (l : List Ex) : (Ex.rows l).length = l.length := by simp [Ex.rows_eq]
theorem Sm.rows_len (l : List Sm) : (Sm.rows l).length = l.length := by simp [Sm.rows_eq]
theorem Ex.rows_at {l : List Ex} {i : Nat} {e : Ex} (h : l[i]? = some e) : (Ex.rows l)[i]? = some e.cells := by rw [Ex.rows_eq, List.getElem?_map, h]; rfl
theorem Sm.rows_at {l : List Sm} {i : Nat} {e : Sm} (h : l[i]? = some e) : (Sm.rows l)[i]? = some e.cells := by rw [Sm.rows_eq, List.getElem?_map, h]; rfl
theorem Ex.cells_shape (e : Ex) : ∃ a b c d, e.cells = [.int .i64 a, .int .i64 b, .str c, .sl 4 d] := by cases e; exact ⟨_, _, _, _, rfl⟩
theorem Sm.cells_shape (e : Sm) : ∃ a b c d f g h, e.cells = [.int .i64 a, .str b, .int .i64 c, .sl 4 d, .sl 7 f, .sl 7 g, .bool h] := by cases e; exact ⟨_, _, _, _, _, _, _, rfl⟩

theorem at_some {α : Type} {l : List α} {i : Nat} (h : i < l.length) : ∃ e, l[i]? = some e ∧ e ∈ l ∧ l.drop i = e :: l.drop (i + 1) := by
  refine ⟨l[i], List.getElem?_eq_getElem h, List.getElem_mem h, ?_⟩
  rw [List.drop_eq_getElem_cons h]

theorem Sm.rows_append (a b : List Sm) : Sm.rows (a ++ b) = Sm.rows a ++ Sm.rows b := by simp [Sm.rows_eq]

end Go.AM.Spec

namespace Go.AM.Spec
set_option linter.unusedVariables false
set_option linter.unusedSimpArgs false
set_option maxHeartbeats 1000000

mutual
/-- Are all texts short? -/
def Ex.txt : Ex → Prop
  | .mk _ _ s x => s.length ≤ 300 ∧ Ex.txts x
def Ex.txts : List Ex → Prop
  | [] => True
  | e :: l => e.txt ∧ Ex.txts l
end
mutual
def Sm.txt : Sm → Prop
  | .mk _ s _ e b c _ => s.length ≤ 300 ∧ Ex.txts e ∧ Sm.txts b ∧ Sm.txts c
def Sm.txts : List Sm → Prop
  | [] => True
  | e :: l => e.txt ∧ Sm.txts l
end

theorem Ex.sizes_append (a b : List Ex) : Ex.sizes (a ++ b) = Ex.sizes a + Ex.sizes b := by
  induction a with
  | nil => simp [Ex.sizes]
  | cons e l ih => simp only [List.cons_append, Ex.sizes, ih]; omega
theorem Ex.txts_append {a b : List Ex} : Ex.txts (a ++ b) ↔ Ex.txts a ∧ Ex.txts b := by
  induction a with
  | nil => simp [Ex.txts]
  | cons e l ih => simp only [List.cons_append, Ex.txts, ih, and_assoc]
theorem Sm.txts_append {a b : List Sm} : Sm.txts (a ++ b) ↔ Sm.txts a ∧ Sm.txts b := by
  induction a with
  | nil => simp [Sm.txts]
  | cons e l ih => simp only [List.cons_append, Sm.txts, ih, and_assoc]

theorem take_next {α : Type} {l : List α} {i : Nat} {e : α} (h : l[i]? = some e) : l.take (i + 1) = l.take i ++ [e] := by
  rw [List.take_add_one, h]; rfl

def Pg.bodies (p : Pg) : List (List Sm) := p.procs.map (·.2)
def Pg.exprs (p : Pg) : List Ex := p.oracles.map (·.2)

theorem Pg.size_eq (p : Pg) : p.size = p.procs.length + p.oracles.length + Sm.sizes p.bodies.flatten + Sm.sizes p.main + Sm.sizes p.recover + Ex.sizes p.exprs := by
  have h : ∀ l : List (List UInt8 × List Sm), Sm.sizes (l.map (·.2)).flatten + l.length = (l.map fun x => 1 + Sm.sizes x.2).sum := by
    intro l
    induction l with
    | nil => rfl
    | cons x l ih => simp only [List.map_cons, List.flatten_cons, Go.AM.Spec.sizes_append, List.length_cons, List.sum_cons]; omega
  have h2 : ∀ l : List (List UInt8 × Ex), Ex.sizes (l.map (·.2)) + l.length = (l.map fun x => 1 + x.2.size).sum := by
    intro l
    induction l with
    | nil => rfl
    | cons x l ih => simp only [List.map_cons, Ex.sizes, List.length_cons, List.sum_cons]; omega
  have := h p.procs
  have := h2 p.oracles
  simp only [Pg.size, Pg.psize, Pg.osize, Pg.bodies, Pg.exprs]
  omega

/-- Are all its texts short? -/
def Pg.txt (p : Pg) : Prop := (∀ x ∈ p.procs, x.1.length ≤ 300 ∧ Sm.txts x.2) ∧ Sm.txts p.main ∧ Sm.txts p.recover ∧ (∀ x ∈ p.oracles, x.1.length ≤ 300 ∧ x.2.txt)

theorem Pg.orow {p : Pg} {i : Nat} {e : List UInt8 × Ex} (he : p.oracles[i]? = some e) : p.ocells[i]? = some (.str e.1 :: e.2.cells) := by rw [Pg.ocells, List.getElem?_map, he]; rfl

end Go.AM.Spec

namespace Go.AM.Spec
set_option linter.unusedVariables false
set_option linter.unusedSimpArgs false
set_option maxHeartbeats 1000000
set_option maxRecDepth 10000

/-- A list's value: nothing, or a block that holds its rows (and something behind them). S: the blocks that it stands on. -/
def LRep (k : Nat) (H : Heap) (n : Nat) (v : V) (S : List Nat) (RR : List (List V) → List Nat → Prop) : Prop :=
  (n = 0 ∧ v = .sl k [] ∧ S = []) ∨ ∃ i cap junk rows S', v = .mg k i 0 n cap ∧ S = i :: S' ∧ H[i]? = some (some (rows.flatten ++ junk)) ∧ RR rows S' ∧ (cap = n ∨ (n ≤ cap ∧ cap * k ≤ (rows.flatten ++ junk).length))

mutual
def Ex.rep (H : Heap) : Ex → List V → List Nat → Prop
  | .mk op n s x, cells, S => ∃ v, cells = [.int .i64 op, .int .i64 n, .str s, v] ∧ LRep 4 H x.length v S (Ex.reps H x)
def Ex.reps (H : Heap) : List Ex → List (List V) → List Nat → Prop
  | [], rows, S => rows = [] ∧ S = []
  | e :: l, rows, S => ∃ r rs S1 S2, rows = r :: rs ∧ S = S1 ++ S2 ∧ e.rep H r S1 ∧ Ex.reps H l rs S2
end

mutual
def Sm.rep (H : Heap) : Sm → List V → List Nat → Prop
  | .mk op s n e b c k, cells, S => ∃ v1 v2 v3 S1 S2 S3, cells = [.int .i64 op, .str s, .int .i64 n, v1, v2, v3, .bool k] ∧ S = S1 ++ (S2 ++ S3) ∧
    LRep 4 H e.length v1 S1 (Ex.reps H e) ∧ LRep 7 H b.length v2 S2 (Sm.reps H b) ∧ LRep 7 H c.length v3 S3 (Sm.reps H c)
def Sm.reps (H : Heap) : List Sm → List (List V) → List Nat → Prop
  | [], rows, S => rows = [] ∧ S = []
  | e :: l, rows, S => ∃ r rs S1 S2, rows = r :: rs ∧ S = S1 ++ S2 ∧ e.rep H r S1 ∧ Sm.reps H l rs S2
end

/-! ## What stands elsewhere does not matter -/

theorem LRep.frame {k : Nat} {H K : Heap} {n : Nat} {v : V} {S : List Nat} {RR RR' : List (List V) → List Nat → Prop} (h : LRep k H n v S RR) (hS : ∀ i ∈ S, K[i]? = H[i]?) (hR : ∀ rows S', (∀ i ∈ S', i ∈ S) → RR rows S' → RR' rows S') : LRep k K n v S RR' := by
  rcases h with h | ⟨i, cap, junk, rows, S', rfl, rfl, h1, h2, h3⟩
  · exact .inl h
  · exact .inr ⟨i, cap, junk, rows, S', rfl, rfl, by rw [hS i (by simp), h1], hR rows S' (fun j hj => by simp [hj]) h2, h3⟩

mutual
theorem Ex.rep_frame {H K : Heap} : ∀ {e : Ex} {cells : List V} {S : List Nat}, e.rep H cells S → (∀ i ∈ S, K[i]? = H[i]?) → e.rep K cells S
  | .mk op n s x, cells, S, ⟨v, h1, h2⟩, hS => ⟨v, h1, h2.frame hS fun rows S' hs h => Ex.reps_frame h fun i hi => hS i (hs i hi)⟩
theorem Ex.reps_frame {H K : Heap} : ∀ {l : List Ex} {rows : List (List V)} {S : List Nat}, Ex.reps H l rows S → (∀ i ∈ S, K[i]? = H[i]?) → Ex.reps K l rows S
  | [], _, _, h, _ => h
  | e :: l, _, _, ⟨r, rs, S1, S2, h1, h2, h3, h4⟩, hS => ⟨r, rs, S1, S2, h1, h2, Ex.rep_frame h3 fun i hi => hS i (by rw [h2]; simp [hi]), Ex.reps_frame h4 fun i hi => hS i (by rw [h2]; simp [hi])⟩
end

mutual
theorem Sm.rep_frame {H K : Heap} : ∀ {e : Sm} {cells : List V} {S : List Nat}, e.rep H cells S → (∀ i ∈ S, K[i]? = H[i]?) → e.rep K cells S
  | .mk op s n e b c k, cells, S, ⟨v1, v2, v3, S1, S2, S3, h1, h2, h3, h4, h5⟩, hS => ⟨v1, v2, v3, S1, S2, S3, h1, h2,
      h3.frame (fun i hi => hS i (by rw [h2]; simp [hi])) fun rows S' hs h => Ex.reps_frame h fun i hi => hS i (by rw [h2]; simp [hs i hi]),
      h4.frame (fun i hi => hS i (by rw [h2]; simp [hi])) fun rows S' hs h => Sm.reps_frame h fun i hi => hS i (by rw [h2]; simp [hs i hi]),
      h5.frame (fun i hi => hS i (by rw [h2]; simp [hi])) fun rows S' hs h => Sm.reps_frame h fun i hi => hS i (by rw [h2]; simp [hs i hi])⟩
theorem Sm.reps_frame {H K : Heap} : ∀ {l : List Sm} {rows : List (List V)} {S : List Nat}, Sm.reps H l rows S → (∀ i ∈ S, K[i]? = H[i]?) → Sm.reps K l rows S
  | [], _, _, h, _ => h
  | e :: l, _, _, ⟨r, rs, S1, S2, h1, h2, h3, h4⟩, hS => ⟨r, rs, S1, S2, h1, h2, Sm.rep_frame h3 fun i hi => hS i (by rw [h2]; simp [hi]), Sm.reps_frame h4 fun i hi => hS i (by rw [h2]; simp [hi])⟩
end

/-! ## Widths -/

theorem Ex.rep_len {H : Heap} {e : Ex} {cells : List V} {S : List Nat} (h : e.rep H cells S) : cells.length = 4 := by
  cases e; obtain ⟨v, rfl, _⟩ := h; rfl
theorem Sm.rep_len {H : Heap} {e : Sm} {cells : List V} {S : List Nat} (h : e.rep H cells S) : cells.length = 7 := by
  cases e; obtain ⟨v1, v2, v3, S1, S2, S3, rfl, _⟩ := h; rfl
theorem Ex.reps_len {H : Heap} : ∀ {l : List Ex} {rows : List (List V)} {S : List Nat}, Ex.reps H l rows S → rows.length = l.length ∧ (∀ r ∈ rows, r.length = 4) ∧ rows.flatten.length = l.length * 4
  | [], _, _, ⟨rfl, _⟩ => by simp
  | e :: l, _, _, ⟨r, rs, S1, S2, rfl, _, h3, h4⟩ => by
    obtain ⟨h5, h6, h7⟩ := Ex.reps_len h4
    have h8 := Ex.rep_len h3
    refine ⟨by simp [h5], fun r' hr => ?_, by rw [List.flatten_cons, List.length_append, h7, h8, List.length_cons]; omega⟩
    rcases List.mem_cons.1 hr with rfl | hr
    · exact h8
    · exact h6 _ hr
theorem Sm.reps_len {H : Heap} : ∀ {l : List Sm} {rows : List (List V)} {S : List Nat}, Sm.reps H l rows S → rows.length = l.length ∧ (∀ r ∈ rows, r.length = 7) ∧ rows.flatten.length = l.length * 7
  | [], _, _, ⟨rfl, _⟩ => by simp
  | e :: l, _, _, ⟨r, rs, S1, S2, rfl, _, h3, h4⟩ => by
    obtain ⟨h5, h6, h7⟩ := Sm.reps_len h4
    have h8 := Sm.rep_len h3
    refine ⟨by simp [h5], fun r' hr => ?_, by rw [List.flatten_cons, List.length_append, h7, h8, List.length_cons]; omega⟩
    rcases List.mem_cons.1 hr with rfl | hr
    · exact h8
    · exact h6 _ hr

theorem Ex.reps_snoc {H : Heap} : ∀ {l : List Ex} {rows : List (List V)} {S : List Nat} {e : Ex} {r : List V} {S' : List Nat}, Ex.reps H l rows S → e.rep H r S' → Ex.reps H (l ++ [e]) (rows ++ [r]) (S ++ S')
  | [], _, _, e, r, S', ⟨rfl, rfl⟩, h => ⟨r, [], S', [], rfl, by simp, h, rfl, rfl⟩
  | x :: l, _, _, e, r, S', ⟨r1, rs, S1, S2, rfl, rfl, h3, h4⟩, h => ⟨r1, rs ++ [r], S1, S2 ++ S', rfl, by simp, h3, Ex.reps_snoc h4 h⟩
theorem Sm.reps_snoc {H : Heap} : ∀ {l : List Sm} {rows : List (List V)} {S : List Nat} {e : Sm} {r : List V} {S' : List Nat}, Sm.reps H l rows S → e.rep H r S' → Sm.reps H (l ++ [e]) (rows ++ [r]) (S ++ S')
  | [], _, _, e, r, S', ⟨rfl, rfl⟩, h => ⟨r, [], S', [], rfl, by simp, h, rfl, rfl⟩
  | x :: l, _, _, e, r, S', ⟨r1, rs, S1, S2, rfl, rfl, h3, h4⟩, h => ⟨r1, rs ++ [r], S1, S2 ++ S', rfl, by simp, h3, Sm.reps_snoc h4 h⟩

end Go.AM.Spec

namespace Go.AM.Spec
set_option linter.unusedVariables false
set_option linter.unusedSimpArgs false
set_option maxHeartbeats 1000000
set_option maxRecDepth 10000

section
variable {α : Type}

/-- Rows that represent the elements of a list, each on blocks of its own. -/
def GReps (R : Heap → α → List V → List Nat → Prop) (H : Heap) : List α → List (List V) → List Nat → Prop
  | [], rows, S => rows = [] ∧ S = []
  | e :: l, rows, S => ∃ r rs S1 S2, rows = r :: rs ∧ S = S1 ++ S2 ∧ R H e r S1 ∧ GReps R H l rs S2

theorem GReps.frame {R : Heap → α → List V → List Nat → Prop} (hR : ∀ H K a r S, R H a r S → (∀ i ∈ S, K[i]? = H[i]?) → R K a r S) {H K : Heap} : ∀ {l : List α} {rows : List (List V)} {S : List Nat}, GReps R H l rows S → (∀ i ∈ S, K[i]? = H[i]?) → GReps R K l rows S
  | [], _, _, h, _ => h
  | e :: l, _, _, ⟨r, rs, S1, S2, h1, h2, h3, h4⟩, hS => ⟨r, rs, S1, S2, h1, h2, hR _ _ _ _ _ h3 (fun i hi => hS i (by rw [h2]; exact List.mem_append_left _ hi)), GReps.frame hR h4 (fun i hi => hS i (by rw [h2]; exact List.mem_append_right _ hi))⟩

theorem GReps.snoc {R : Heap → α → List V → List Nat → Prop} {H : Heap} : ∀ {l : List α} {rows : List (List V)} {S : List Nat} {e : α} {r : List V} {S' : List Nat}, GReps R H l rows S → R H e r S' → GReps R H (l ++ [e]) (rows ++ [r]) (S ++ S')
  | [], _, _, e, r, S', ⟨rfl, rfl⟩, h => ⟨r, [], S', [], rfl, by simp, h, rfl, rfl⟩
  | x :: l, _, _, e, r, S', ⟨r1, rs, S1, S2, rfl, rfl, h3, h4⟩, h => ⟨r1, rs ++ [r], S1, S2 ++ S', rfl, by simp, h3, GReps.snoc h4 h⟩

theorem GReps.flat {R : Heap → α → List V → List Nat → Prop} {k : Nat} (hk : ∀ H a r S, R H a r S → r.length = k) {H : Heap} : ∀ {l : List α} {rows : List (List V)} {S : List Nat}, GReps R H l rows S → rows.flatten.length = l.length * k
  | [], _, _, ⟨rfl, _⟩ => by simp
  | e :: l, _, _, ⟨r, rs, S1, S2, rfl, _, h3, h4⟩ => by
    rw [List.flatten_cons, List.length_append, GReps.flat hk h4, hk _ _ _ _ h3, List.length_cons, Nat.add_mul, Nat.one_mul, Nat.add_comm]

/-- A list that grows, behind the first n blocks. -/
structure OL (R : Heap → α → List V → List Nat → Prop) (k n : Nat) (K : Heap) (v : V) (l : List α) (S : List Nat) : Prop where
  nd : S.Nodup
  at_ : ∀ i ∈ S, n ≤ i ∧ i < K.length
  is : (l = [] ∧ v = .nils k ∧ S = []) ∨ ∃ i rows S', l ≠ [] ∧ v = .mg k i 0 l.length l.length ∧ S = i :: S' ∧ K[i]? = some (some rows.flatten) ∧ GReps R K l rows S'

theorem OL.push {R : Heap → α → List V → List Nat → Prop} {k n bytes : Nat} (hR : ∀ H K a r S, R H a r S → (∀ i ∈ S, K[i]? = H[i]?) → R K a r S) (hk : ∀ H a r S, R H a r S → r.length = k) (hk0 : 0 < k) (hb0 : 0 < bytes)
    {K K3 : Heap} {v : V} {l : List α} {S : List Nat} (h : OL R k n K v l S) {e : α} {cells : List V} {Se : List Nat} (hn : n ≤ K.length) (hl : 2 * (l.length + 1) * bytes ≤ 2 ^ 48)
    (h3 : ∀ i, i < K.length → K3[i]? = K[i]?) (h3l : K.length ≤ K3.length) (he : R K3 e cells Se) (hSe : Se.Nodup) (hSat : ∀ i ∈ Se, K.length ≤ i ∧ i < K3.length) (hone : cells.all V.one = true) :
    ∃ q K4 S', appM K3 k bytes v 1 cells = some (.mg k q 0 (l.length + 1) (l.length + 1), K4) ∧ OL R k n K4 (.mg k q 0 (l.length + 1) (l.length + 1)) (l ++ [e]) S' ∧ (∀ i, i < n → K4[i]? = K3[i]?) ∧ K3.length ≤ K4.length := by
  have hcl := hk _ _ _ _ he
  obtain ⟨hnd, hat, his⟩ := h
  rcases his with ⟨rfl, rfl, rfl⟩ | ⟨i, rows, S', hne, rfl, rfl, hi, hG⟩
  · refine ⟨K3.length, K3 ++ [some cells], K3.length :: Se, ?_, ⟨?_, fun j hj => ?_, .inr ⟨K3.length, [cells], Se, by simp, rfl, rfl, by simp, ?_⟩⟩, fun j hj => List.getElem?_append_left (by omega), by simp⟩
    · have : 2 * 1 * bytes ≤ 2 ^ 48 := by simpa using hl
      unfold appM
      simp only [hk0, hone, hb0, and_self, if_true, Nat.zero_lt_one, this, List.length_nil, Nat.zero_add]
    · exact List.nodup_cons.2 ⟨fun hj => by have := (hSat _ hj).2; omega, hSe⟩
    · rcases List.mem_cons.1 hj with rfl | hj
      · simp; omega
      · have := hSat _ hj; simp; omega
    · exact ⟨cells, [], Se, [], rfl, by simp, hR _ _ _ _ _ he (fun j hj => List.getElem?_append_left (hSat j hj).2), rfl, rfl⟩
  · have hin := hat i (by simp)
    have hnd2 := List.nodup_cons.1 hnd
    have hfl := hG.flat hk
    have hi3 : K3[i]? = some (some rows.flatten) := by rw [h3 i hin.2, hi]
    refine ⟨K3.length, K3.set i none ++ [some (rows.flatten ++ cells)], K3.length :: (S' ++ Se), ?_, ⟨?_, fun j hj => ?_, .inr ⟨K3.length, rows ++ [cells], S' ++ Se, by simp, by simp, rfl, ?_, ?_⟩⟩, fun j hj => ?_, by simp⟩
    · unfold appM
      simp only [hk0, hone, hb0, and_self, if_true, hi3, if_neg (show ¬ (l.length + 1 ≤ l.length ∧ 0 + l.length * k ≤ rows.flatten.length) by omega), if_pos (show 0 + l.length * k ≤ rows.flatten.length ∧ 0 < 1 ∧ 2 * (l.length + 1) * bytes ≤ 2 ^ 48 from ⟨by omega, by omega, hl⟩), List.drop_zero, List.take_of_length_le (Nat.le_of_eq hfl)]
    · refine List.nodup_cons.2 ⟨fun hj => ?_, List.nodup_append.2 ⟨hnd2.2, hSe, fun a ha b hb hab => ?_⟩⟩
      · rcases List.mem_append.1 hj with hj | hj
        · have := (hat _ (List.mem_cons_of_mem _ hj)).2; omega
        · have := (hSat _ hj).2; omega
      · have h1 := (hat a (List.mem_cons_of_mem _ ha)).2
        have h2 := (hSat b hb).1
        omega
    · rcases List.mem_cons.1 hj with rfl | hj
      · simp; omega
      · rcases List.mem_append.1 hj with hj | hj
        · have := hat _ (List.mem_cons_of_mem _ hj); simp; omega
        · have := hSat _ hj; simp; omega
    · rw [List.getElem?_append_right (by simp)]; simp
    · refine GReps.snoc (GReps.frame hR hG fun j hj => ?_) (hR _ _ _ _ _ he fun j hj => ?_)
      · have h1 := (hat j (List.mem_cons_of_mem _ hj)).2
        rw [List.getElem?_append_left (by simp; omega), List.getElem?_set_ne (fun h => hnd2.1 (by rw [h]; exact hj)), h3 j h1]
      · have h1 := hSat j hj
        rw [List.getElem?_append_left (by simp; omega), List.getElem?_set_ne (by omega)]
    · rw [List.getElem?_append_left (by simp; omega), List.getElem?_set_ne (by omega)]
end

end Go.AM.Spec

namespace Go.AM.Spec
set_option linter.unusedVariables false
set_option linter.unusedSimpArgs false
set_option maxHeartbeats 1000000
set_option maxRecDepth 10000

def ExR (H : Heap) (e : Ex) : List V → List Nat → Prop := e.rep H
def SmR (H : Heap) (e : Sm) : List V → List Nat → Prop := e.rep H
theorem Ex.reps_G {H : Heap} : ∀ {l : List Ex} {rows : List (List V)} {S : List Nat}, GReps ExR H l rows S ↔ Ex.reps H l rows S
  | [], _, _ => Iff.rfl
  | e :: l, _, _ => by simp only [GReps, Ex.reps, ExR, Ex.reps_G (l := l)]
theorem Sm.reps_G {H : Heap} : ∀ {l : List Sm} {rows : List (List V)} {S : List Nat}, GReps SmR H l rows S ↔ Sm.reps H l rows S
  | [], _, _ => Iff.rfl
  | e :: l, _, _ => by simp only [GReps, Sm.reps, SmR, Sm.reps_G (l := l)]

/-- What a wide function of copies answers: a value that represents the element, on new blocks. -/
def DF {α : Type} (R : Heap → α → List V → List Nat → Prop) (g : α → List V) (call : CallF) (f : Nat) (e : α) : Prop :=
  ∀ K, ∃ cells L S, call (wNo f) [.agg (g e)] K = some (.agg cells, K ++ L) ∧ R (K ++ L) e cells S ∧ S.Nodup ∧ ∀ i ∈ S, K.length ≤ i ∧ i < (K ++ L).length

theorem eachE_loop (call : CallF) (n : Nat) (H : Heap) (l : List Ex) (hl : l.length ≤ 20000) (hf : ∀ e ∈ l, DF ExR Ex.cells call n_tree_clonedExpr e) (Q : Option (V × Heap) → Prop) (k : List Item)
    (hexit : ∀ φ' K v S, (∀ i, i < n → K[i]? = H[i]?) → n ≤ K.length → OL ExR 4 n K v l S → Fr.get φ' 5 = v → Q (M call k φ' K)) :
    ∀ (j i : Nat) (φ : Fr) (K : Heap) (v : V) (S : List Nat), i + j = l.length → (∀ i, i < n → K[i]? = H[i]?) → n ≤ K.length → OL ExR 4 n K v (l.take i) S → Fr.get φ 1 = .fn (.func n_tree_clonedExpr) [] [] → Fr.get φ 5 = v → Fr.get φ 8 = .sl 4 (Ex.rows l) → Fr.get φ 9 = .int .i64 l.length → Fr.get φ 10 = .int .i64 i →
      Q (M call (.code l_tree_each_api_Expr_w_0 :: .blk 0 :: k) φ K) := by
  intro j
  induction j with
  | zero =>
    intro i φ K v S hj hK hn hv h1 h5 h8 h9 h10
    have hi : ¬ ((i : Int) < l.length) := by omega
    rw [List.take_of_length_le (by omega)] at hv
    rw [l_tree_each_api_Expr_w_0, M_loop, ← l_tree_each_api_Expr_w_0]
    simp [b_tree_each_api_Expr_w_0, h1, h8, h9, h10, hi]
    exact hexit _ K v S hK hn hv (by simp [h5])
  | succ j ih =>
    intro i φ K v S hj hK hn hv h1 h5 h8 h9 h10
    have hi : (i : Int) < l.length := by omega
    have hil : i < l.length := by omega
    obtain ⟨e, he⟩ : ∃ e, l[i]? = some e := ⟨l[i], List.getElem?_eq_getElem hil⟩
    have hmem : e ∈ l := List.mem_of_getElem? he
    have hrow : (Ex.rows l)[i]? = some e.cells := by rw [Ex.rows_eq, List.getElem?_map, he]; rfl
    have hcl : (Ex.rows l).length = l.length := by rw [Ex.rows_eq]; simp
    have hti : (l.take i).length = i := by simp; omega
    have hnext : l.take i ++ [e] = l.take (i + 1) := by rw [List.take_add_one, he]; rfl
    have hw : IntKind.i64.wrap ((i : Int) + 1) = ((i + 1 : Nat) : Int) := by rw [w64 (by omega) (by omega)]; rfl
    obtain ⟨cells, L, Se, hc, hR, hSe, hSat⟩ := hf e hmem (K ++ [some e.cells])
    have hlen := Ex.rep_len hR
    have hone : cells.all V.one = true := by
      cases e
      obtain ⟨v0, rfl, hL⟩ := hR
      rcases hL with ⟨_, rfl, _⟩ | ⟨i', cap, junk, rows, S', rfl, _⟩ <;> rfl
    have hst : cells.map V.strip = cells := by
      cases e
      obtain ⟨v0, rfl, hL⟩ := hR
      rcases hL with ⟨_, rfl, _⟩ | ⟨i', cap, junk, rows, S', rfl, _⟩ <;> rfl
    have hK3 : ∀ i ∈ Se, (K ++ some e.cells :: (L ++ [some cells]))[i]? = ((K ++ [some e.cells]) ++ L)[i]? := fun q hq => by
      have h2 := (hSat q hq).2
      rw [show K ++ some e.cells :: (L ++ [some cells]) = ((K ++ [some e.cells]) ++ L) ++ [some cells] by simp, List.getElem?_append_left h2]
    obtain ⟨q, K4, S', hap, hOL, hlo, hle⟩ := OL.push (R := ExR) (bytes := 56) (h := hv) (K3 := K ++ some e.cells :: (L ++ [some cells])) (e := e) (cells := cells) (Se := Se) (fun _ _ _ _ _ h hS => Ex.rep_frame h hS) (fun _ _ _ _ h => Ex.rep_len h) (by omega) (by omega) hn (by rw [hti]; omega)
      (fun q hq => List.getElem?_append_left hq) (by simp) (Ex.rep_frame hR hK3) hSe (fun q hq => ⟨by have := (hSat q hq).1; simp at this; omega, by have := (hSat q hq).2; simp at this ⊢; omega⟩) hone
    rw [hnext] at hOL
    rw [hti] at hap hOL
    have hlo2 : ∀ q, q < n → K4[q]? = H[q]? := fun q hq => by rw [hlo q hq, List.getElem?_append_left (by omega), hK q hq]
    have hle2 : n ≤ K4.length := by simp at hle; omega
    have hnx := ih (i + 1)
    have hg : ∀ (a b : Option (List V)), (K ++ a :: (L ++ [b]))[K.length + (L.length + 1)]? = some b := fun a b => by
      rw [List.getElem?_append_right (by omega), show K.length + (L.length + 1) - K.length = L.length + 1 by omega, List.getElem?_cons_succ, get0]
    obtain ⟨op, m, s, x⟩ := e
    obtain ⟨v0, rfl, hL⟩ := hR
    simp only [Ex.cells] at hrow hc hap
    have hc' : call (wNo n_tree_clonedExpr) [.agg [.int .i64 op, .int .i64 m, .str s, .sl 4 (Ex.rows x)]] (K ++ [some [.int .i64 op, .int .i64 m, .str s, .sl 4 (Ex.rows x)]]) = some (.agg [.int .i64 op, .int .i64 m, .str s, v0], K ++ some [.int .i64 op, .int .i64 m, .str s, .sl 4 (Ex.rows x)] :: L) := by
      rw [hc]; simp
    rw [l_tree_each_api_Expr_w_0, M_loop, ← l_tree_each_api_Expr_w_0]
    rcases hL with ⟨_, rfl, _⟩ | ⟨i', cap, junk, rows', S'', rfl, _⟩ <;> rcases hv.is with ⟨hl0, rfl, _⟩ | ⟨i0, rows, S0, _, rfl, _, _⟩
    all_goals
      try simp only [hti] at h5 hap
      simp [b_tree_each_api_Expr_w_0, h1, h5, h8, h9, h10, hi, hcl, hrow, hc', hap, hg, get0, set0, lt_tree_clonedExpr, hw]
      exact hnx _ K4 _ S' (by omega) hlo2 hle2 hOL (by simp [h1]) (by simp) (by simp [h8]) (by simp [h9]) (by simp)

theorem heap_more {K H : Heap} (h : ∀ i, i < H.length → K[i]? = H[i]?) (hl : H.length ≤ K.length) : K = H ++ K.drop H.length := by
  apply List.ext_getElem?
  intro i
  by_cases hi : i < H.length
  · rw [h i hi, List.getElem?_append_left hi]
  · rw [List.getElem?_append_right (by omega), List.getElem?_drop]; congr 1; omega

/-- A list, every element copied. -/
theorem eachE_eq (l : List Ex) (hl : l.length ≤ 20000) (hf : ∀ e ∈ l, DF ExR Ex.cells (eval tbl noExt) n_tree_clonedExpr e) (H : Heap) :
    ∃ v L, eval tbl noExt (wNo n_tree_each_api_Expr) [.sl 4 (Ex.rows l), .fn (.func n_tree_clonedExpr) [] []] H = some (v, H ++ L) ∧ ∃ S, OL ExR 4 H.length (H ++ L) v l S := by
  have hcl : (Ex.rows l).length = l.length := by rw [Ex.rows_eq]; simp
  rw [eval_W tw_tree_each_api_Expr rfl]
  simp [c_tree_each_api_Expr_w, hcl]
  refine eachE_loop (eval tbl noExt) H.length H l hl hf (fun o => ∃ v L, o = some (v, H ++ L) ∧ ∃ S, OL ExR 4 H.length (H ++ L) v l S) _ (fun φ' K v S hK hn hv h5 => ⟨v, K.drop H.length, ?_, S, ?_⟩) l.length 0 _ H (.nils 4) [] (by omega) (fun _ _ => rfl) (Nat.le_refl _) ⟨List.nodup_nil, fun i hi => by simp at hi, .inl ⟨rfl, rfl, rfl⟩⟩ (by simp) (by simp) (by simp) (by simp) (by simp)
  · rw [← heap_more hK hn]
    rcases hv.is with ⟨_, rfl, _⟩ | ⟨q, _, _, _, rfl, _⟩ <;> simp [r_tree_each_api_Expr_w_0, h5]
  · rw [← heap_more hK hn]; exact hv

/-- A list that has been built, read. -/
theorem OL.rep {α : Type} {R : Heap → α → List V → List Nat → Prop} {k n : Nat} {K : Heap} {v : V} {l : List α} {S : List Nat} (h : OL R k n K v l S) : LRep k K l.length v.strip S (GReps R K l) ∧ (v = .nils k ∨ v.strip = v) := by
  rcases h.is with ⟨rfl, rfl, rfl⟩ | ⟨i, rows, S', _, rfl, rfl, h1, h2⟩
  · exact ⟨.inl ⟨rfl, rfl, rfl⟩, .inl rfl⟩
  · exact ⟨.inr ⟨i, _, [], rows, S', rfl, rfl, by rw [List.append_nil]; exact h1, h2, .inl rfl⟩, .inr rfl⟩

theorem hid_get {m : Nat} {K L : Heap} (hK : K.length = m) (i : Nat) (hi : m ≤ i) : (K ++ L)[i]? = (List.replicate m none ++ L)[i]? := by
  rw [List.getElem?_append_right (by omega), List.getElem?_append_right (by simp; omega)]; simp [hK]

theorem clonedExprW (op m : Int) (s : List UInt8) (x : List Ex) (hl : x.length ≤ 20000) (hf : ∀ e ∈ x, DF ExR Ex.cells (eval tbl noExt) n_tree_clonedExpr e) : DF ExR Ex.cells (eval tbl noExt) n_tree_clonedExpr (.mk op m s x) := by
  intro K
  obtain ⟨v, L, hv, S, hOL⟩ := eachE_eq x hl hf (List.replicate (K.length + 2) none)
  rw [List.length_replicate] at hOL
  obtain ⟨hrep, hvs⟩ := hOL.rep
  have hfr : ∀ a b : Option (List V), ∀ i ∈ S, (K ++ a :: b :: L)[i]? = (List.replicate (K.length + 2) none ++ L)[i]? := fun a b i hi => by
    have := hid_get (m := K.length + 2) (K := K ++ [a, b]) (L := L) (by simp) i (hOL.at_ i hi).1
    simpa using this
  refine ⟨[.int .i64 op, .int .i64 m, .str s, v.strip], some [.int .i64 op, .int .i64 m, .str s, v] :: some [.int .i64 op, .int .i64 m, .str s, v.strip] :: L, S, ?_, ⟨v.strip, rfl, ?_⟩, hOL.nd, fun i hi => ?_⟩
  · rw [eval_W tw_tree_clonedExpr rfl]
    rcases hOL.is with ⟨_, rfl, _⟩ | ⟨q, _, _, _, rfl, _⟩ <;> simp [c_tree_clonedExpr_w, Ex.cells, callOwn, hv, get0, get1, set0, set1]
  · exact hrep.frame (hfr _ _) fun rows S' hs h => Ex.reps_frame (Ex.reps_G.1 h) fun i hi => hfr _ _ i (hs i hi)
  · have := hOL.at_ i hi
    simp at this ⊢; omega

end Go.AM.Spec

namespace Go.AM.Spec
set_option linter.unusedVariables false
set_option linter.unusedSimpArgs false
set_option maxHeartbeats 4000000
set_option maxRecDepth 10000

def procV (x : List UInt8 × List Sm) : List V := [.str x.1, .sl 7 (Sm.rows x.2)]
def oracleV (x : List UInt8 × Ex) : List V := .str x.1 :: x.2.cells
/-- A procedure, an oracle in memory. -/
def PrR (H : Heap) (x : List UInt8 × List Sm) (cells : List V) (S : List Nat) : Prop := ∃ v, cells = [.str x.1, v] ∧ LRep 7 H x.2.length v S (Sm.reps H x.2)
def OrR (H : Heap) (x : List UInt8 × Ex) (cells : List V) (S : List Nat) : Prop := ∃ c, cells = .str x.1 :: c ∧ x.2.rep H c S
theorem PrR.frame {H K : Heap} {x : List UInt8 × List Sm} {cells : List V} {S : List Nat} (h : PrR H x cells S) (hS : ∀ i ∈ S, K[i]? = H[i]?) : PrR K x cells S := by
  obtain ⟨v, h1, h2⟩ := h
  exact ⟨v, h1, h2.frame hS fun rows S' hs h => Sm.reps_frame h fun i hi => hS i (hs i hi)⟩
theorem OrR.frame {H K : Heap} {x : List UInt8 × Ex} {cells : List V} {S : List Nat} (h : OrR H x cells S) (hS : ∀ i ∈ S, K[i]? = H[i]?) : OrR K x cells S := by
  obtain ⟨v, h1, h2⟩ := h
  exact ⟨v, h1, Ex.rep_frame h2 hS⟩
theorem PrR.len {H : Heap} {x : List UInt8 × List Sm} {cells : List V} {S : List Nat} (h : PrR H x cells S) : cells.length = 2 := by
  obtain ⟨v, rfl, _⟩ := h; rfl
theorem OrR.len {H : Heap} {x : List UInt8 × Ex} {cells : List V} {S : List Nat} (h : OrR H x cells S) : cells.length = 5 := by
  obtain ⟨v, rfl, h2⟩ := h; have := Ex.rep_len h2; simp [this]

theorem eachS_loop (call : CallF) (n : Nat) (H : Heap) (l : List (Sm)) (hl : l.length ≤ 20000) (hf : ∀ e ∈ l, DF SmR Sm.cells call n_tree_cloned e) (Q : Option (V × Heap) → Prop) (k : List Item)
    (hexit : ∀ φ' K v S, (∀ i, i < n → K[i]? = H[i]?) → n ≤ K.length → OL SmR 7 n K v l S → Fr.get φ' 5 = v → Q (M call k φ' K)) :
    ∀ (j i : Nat) (φ : Fr) (K : Heap) (v : V) (S : List Nat), i + j = l.length → (∀ i, i < n → K[i]? = H[i]?) → n ≤ K.length → OL SmR 7 n K v (l.take i) S → Fr.get φ 1 = .fn (.func n_tree_cloned) [] [] → Fr.get φ 5 = v → Fr.get φ 8 = .sl 7 (Sm.rows l) → Fr.get φ 9 = .int .i64 l.length → Fr.get φ 10 = .int .i64 i →
      Q (M call (.code l_tree_each_api_Stmt_w_0 :: .blk 0 :: k) φ K) := by
  intro j
  induction j with
  | zero =>
    intro i φ K v S hj hK hn hv h1 h5 h8 h9 h10
    have hi : ¬ ((i : Int) < l.length) := by omega
    rw [List.take_of_length_le (by omega)] at hv
    rw [l_tree_each_api_Stmt_w_0, M_loop, ← l_tree_each_api_Stmt_w_0]
    simp [b_tree_each_api_Stmt_w_0, h1, h8, h9, h10, hi]
    exact hexit _ K v S hK hn hv (by simp [h5])
  | succ j ih =>
    intro i φ K v S hj hK hn hv h1 h5 h8 h9 h10
    have hi : (i : Int) < l.length := by omega
    have hil : i < l.length := by omega
    obtain ⟨e, he⟩ : ∃ e, l[i]? = some e := ⟨l[i], List.getElem?_eq_getElem hil⟩
    have hmem : e ∈ l := List.mem_of_getElem? he
    have hrow : (Sm.rows l)[i]? = some (Sm.cells e) := by rw [Sm.rows_eq, List.getElem?_map, he]; rfl
    have hcl : (Sm.rows l).length = l.length := by rw [Sm.rows_eq]; simp
    have hti : (l.take i).length = i := by simp; omega
    have hnext : l.take i ++ [e] = l.take (i + 1) := by rw [List.take_add_one, he]; rfl
    have hw : IntKind.i64.wrap ((i : Int) + 1) = ((i + 1 : Nat) : Int) := by rw [w64 (by omega) (by omega)]; rfl
    obtain ⟨cells, L, Se, hc, hR, hSe, hSat⟩ := hf e hmem (K ++ [some (Sm.cells e)])
    have hlen := Sm.rep_len hR
    have hone : cells.all V.one = true := by
      cases e
      obtain ⟨v1, v2, v3, S1, S2, S3, rfl, _, hL1, hL2, hL3⟩ := hR
      rcases hL1 with ⟨_, rfl, _⟩ | ⟨_, _, _, _, _, rfl, _⟩ <;> rcases hL2 with ⟨_, rfl, _⟩ | ⟨_, _, _, _, _, rfl, _⟩ <;> rcases hL3 with ⟨_, rfl, _⟩ | ⟨_, _, _, _, _, rfl, _⟩ <;> rfl
    have hst : cells.map V.strip = cells := by
      cases e
      obtain ⟨v1, v2, v3, S1, S2, S3, rfl, _, hL1, hL2, hL3⟩ := hR
      rcases hL1 with ⟨_, rfl, _⟩ | ⟨_, _, _, _, _, rfl, _⟩ <;> rcases hL2 with ⟨_, rfl, _⟩ | ⟨_, _, _, _, _, rfl, _⟩ <;> rcases hL3 with ⟨_, rfl, _⟩ | ⟨_, _, _, _, _, rfl, _⟩ <;> rfl
    have hK3 : ∀ i ∈ Se, (K ++ some (Sm.cells e) :: (L ++ [some cells]))[i]? = ((K ++ [some (Sm.cells e)]) ++ L)[i]? := fun q hq => by
      have h2 := (hSat q hq).2
      rw [show K ++ some (Sm.cells e) :: (L ++ [some cells]) = ((K ++ [some (Sm.cells e)]) ++ L) ++ [some cells] by simp, List.getElem?_append_left h2]
    obtain ⟨q, K4, S', hap, hOL, hlo, hle⟩ := OL.push (R := SmR) (bytes := 112) (h := hv) (K3 := K ++ some (Sm.cells e) :: (L ++ [some cells])) (e := e) (cells := cells) (Se := Se) (fun _ _ _ _ _ h hS => Sm.rep_frame h hS) (fun _ _ _ _ h => Sm.rep_len h) (by omega) (by omega) hn (by rw [hti]; omega)
      (fun q hq => List.getElem?_append_left hq) (by simp) (Sm.rep_frame hR hK3) hSe (fun q hq => ⟨by have := (hSat q hq).1; simp at this; omega, by have := (hSat q hq).2; simp at this ⊢; omega⟩) hone
    rw [hnext] at hOL
    rw [hti] at hap hOL
    have hlo2 : ∀ q, q < n → K4[q]? = H[q]? := fun q hq => by rw [hlo q hq, List.getElem?_append_left (by omega), hK q hq]
    have hle2 : n ≤ K4.length := by simp at hle; omega
    have hnx := ih (i + 1)
    have hg : ∀ (a b : Option (List V)), (K ++ a :: (L ++ [b]))[K.length + (L.length + 1)]? = some b := fun a b => by
      rw [List.getElem?_append_right (by omega), show K.length + (L.length + 1) - K.length = L.length + 1 by omega, List.getElem?_cons_succ, get0]
    obtain ⟨op, s, m, x, b, c, g⟩ := e
    obtain ⟨v1, v2, v3, S1, S2, S3, rfl, _, hL1, hL2, hL3⟩ := hR
    simp only [Sm.cells] at hrow hc hap
    have hc' : call (wNo n_tree_cloned) [.agg [.int .i64 op, .str s, .int .i64 m, .sl 4 (Ex.rows x), .sl 7 (Sm.rows b), .sl 7 (Sm.rows c), .bool g]] (K ++ [some [.int .i64 op, .str s, .int .i64 m, .sl 4 (Ex.rows x), .sl 7 (Sm.rows b), .sl 7 (Sm.rows c), .bool g]]) = some (.agg [.int .i64 op, .str s, .int .i64 m, v1, v2, v3, .bool g], K ++ some [.int .i64 op, .str s, .int .i64 m, .sl 4 (Ex.rows x), .sl 7 (Sm.rows b), .sl 7 (Sm.rows c), .bool g] :: L) := by
      rw [hc]; simp
    rw [l_tree_each_api_Stmt_w_0, M_loop, ← l_tree_each_api_Stmt_w_0]
    rcases hL1 with ⟨_, rfl, _⟩ | ⟨_, _, _, _, _, rfl, _⟩ <;> rcases hL2 with ⟨_, rfl, _⟩ | ⟨_, _, _, _, _, rfl, _⟩ <;> rcases hL3 with ⟨_, rfl, _⟩ | ⟨_, _, _, _, _, rfl, _⟩ <;> rcases hv.is with ⟨hl0, rfl, _⟩ | ⟨i0, rows, S0, _, rfl, _, _⟩
    all_goals
      try simp only [hti] at h5 hap
      simp [b_tree_each_api_Stmt_w_0, h1, h5, h8, h9, h10, hi, hcl, hrow, hc', hap, hg, get0, set0, lt_tree_cloned, hw]
      exact hnx _ K4 _ S' (by omega) hlo2 hle2 hOL (by simp [h1]) (by simp) (by simp [h8]) (by simp [h9]) (by simp)

/-- A list, every element copied. -/
theorem eachS_eq (l : List (Sm)) (hl : l.length ≤ 20000) (hf : ∀ e ∈ l, DF SmR Sm.cells (eval tbl noExt) n_tree_cloned e) (H : Heap) :
    ∃ v L, eval tbl noExt (wNo n_tree_each_api_Stmt) [.sl 7 (Sm.rows l), .fn (.func n_tree_cloned) [] []] H = some (v, H ++ L) ∧ ∃ S, OL SmR 7 H.length (H ++ L) v l S := by
  have hcl : (Sm.rows l).length = l.length := by rw [Sm.rows_eq]; simp
  rw [eval_W tw_tree_each_api_Stmt rfl]
  simp [c_tree_each_api_Stmt_w, hcl]
  refine eachS_loop (eval tbl noExt) H.length H l hl hf (fun o => ∃ v L, o = some (v, H ++ L) ∧ ∃ S, OL SmR 7 H.length (H ++ L) v l S) _ (fun φ' K v S hK hn hv h5 => ⟨v, K.drop H.length, ?_, S, ?_⟩) l.length 0 _ H (.nils 7) [] (by omega) (fun _ _ => rfl) (Nat.le_refl _) ⟨List.nodup_nil, fun i hi => by simp at hi, .inl ⟨rfl, rfl, rfl⟩⟩ (by simp) (by simp) (by simp) (by simp) (by simp)
  · rw [← heap_more hK hn]
    rcases hv.is with ⟨_, rfl, _⟩ | ⟨q, _, _, _, rfl, _⟩ <;> simp [r_tree_each_api_Stmt_w_0, h5]
  · rw [← heap_more hK hn]; exact hv


theorem eachP_loop (call : CallF) (n : Nat) (H : Heap) (l : List (List UInt8 × List Sm)) (hl : l.length ≤ 20000) (hf : ∀ e ∈ l, DF PrR procV call n_tree_Clone_1 e) (Q : Option (V × Heap) → Prop) (k : List Item)
    (hexit : ∀ φ' K v S, (∀ i, i < n → K[i]? = H[i]?) → n ≤ K.length → OL PrR 2 n K v l S → Fr.get φ' 5 = v → Q (M call k φ' K)) :
    ∀ (j i : Nat) (φ : Fr) (K : Heap) (v : V) (S : List Nat), i + j = l.length → (∀ i, i < n → K[i]? = H[i]?) → n ≤ K.length → OL PrR 2 n K v (l.take i) S → Fr.get φ 1 = .fn (.func n_tree_Clone_1) [] [] → Fr.get φ 5 = v → Fr.get φ 8 = .sl 2 (l.map procV) → Fr.get φ 9 = .int .i64 l.length → Fr.get φ 10 = .int .i64 i →
      Q (M call (.code l_tree_each_api_Proc_w_0 :: .blk 0 :: k) φ K) := by
  intro j
  induction j with
  | zero =>
    intro i φ K v S hj hK hn hv h1 h5 h8 h9 h10
    have hi : ¬ ((i : Int) < l.length) := by omega
    rw [List.take_of_length_le (by omega)] at hv
    rw [l_tree_each_api_Proc_w_0, M_loop, ← l_tree_each_api_Proc_w_0]
    simp [b_tree_each_api_Proc_w_0, h1, h8, h9, h10, hi]
    exact hexit _ K v S hK hn hv (by simp [h5])
  | succ j ih =>
    intro i φ K v S hj hK hn hv h1 h5 h8 h9 h10
    have hi : (i : Int) < l.length := by omega
    have hil : i < l.length := by omega
    obtain ⟨e, he⟩ : ∃ e, l[i]? = some e := ⟨l[i], List.getElem?_eq_getElem hil⟩
    have hmem : e ∈ l := List.mem_of_getElem? he
    have hrow : (l.map procV)[i]? = some (procV e) := by rw [List.getElem?_map, he]; rfl
    have hcl : (l.map procV).length = l.length := by simp
    have hti : (l.take i).length = i := by simp; omega
    have hnext : l.take i ++ [e] = l.take (i + 1) := by rw [List.take_add_one, he]; rfl
    have hw : IntKind.i64.wrap ((i : Int) + 1) = ((i + 1 : Nat) : Int) := by rw [w64 (by omega) (by omega)]; rfl
    obtain ⟨cells, L, Se, hc, hR, hSe, hSat⟩ := hf e hmem (K ++ [some (procV e)])
    have hlen := PrR.len hR
    have hone : cells.all V.one = true := by
      cases e
      obtain ⟨v0, rfl, hL⟩ := hR
      rcases hL with ⟨_, rfl, _⟩ | ⟨_, _, _, _, _, rfl, _⟩ <;> rfl
    have hst : cells.map V.strip = cells := by
      cases e
      obtain ⟨v0, rfl, hL⟩ := hR
      rcases hL with ⟨_, rfl, _⟩ | ⟨_, _, _, _, _, rfl, _⟩ <;> rfl
    have hK3 : ∀ i ∈ Se, (K ++ some (procV e) :: (L ++ [some cells]))[i]? = ((K ++ [some (procV e)]) ++ L)[i]? := fun q hq => by
      have h2 := (hSat q hq).2
      rw [show K ++ some (procV e) :: (L ++ [some cells]) = ((K ++ [some (procV e)]) ++ L) ++ [some cells] by simp, List.getElem?_append_left h2]
    obtain ⟨q, K4, S', hap, hOL, hlo, hle⟩ := OL.push (R := PrR) (bytes := 40) (h := hv) (K3 := K ++ some (procV e) :: (L ++ [some cells])) (e := e) (cells := cells) (Se := Se) (fun _ _ _ _ _ h hS => PrR.frame h hS) (fun _ _ _ _ h => PrR.len h) (by omega) (by omega) hn (by rw [hti]; omega)
      (fun q hq => List.getElem?_append_left hq) (by simp) (PrR.frame hR hK3) hSe (fun q hq => ⟨by have := (hSat q hq).1; simp at this; omega, by have := (hSat q hq).2; simp at this ⊢; omega⟩) hone
    rw [hnext] at hOL
    rw [hti] at hap hOL
    have hlo2 : ∀ q, q < n → K4[q]? = H[q]? := fun q hq => by rw [hlo q hq, List.getElem?_append_left (by omega), hK q hq]
    have hle2 : n ≤ K4.length := by simp at hle; omega
    have hnx := ih (i + 1)
    have hg : ∀ (a b : Option (List V)), (K ++ a :: (L ++ [b]))[K.length + (L.length + 1)]? = some b := fun a b => by
      rw [List.getElem?_append_right (by omega), show K.length + (L.length + 1) - K.length = L.length + 1 by omega, List.getElem?_cons_succ, get0]
    obtain ⟨s, b⟩ := e
    obtain ⟨v0, rfl, hL⟩ := hR
    simp only [procV] at hrow hc hap
    have hc' : call (wNo n_tree_Clone_1) [.agg [.str s, .sl 7 (Sm.rows b)]] (K ++ [some [.str s, .sl 7 (Sm.rows b)]]) = some (.agg [.str s, v0], K ++ some [.str s, .sl 7 (Sm.rows b)] :: L) := by
      rw [hc]; simp
    rw [l_tree_each_api_Proc_w_0, M_loop, ← l_tree_each_api_Proc_w_0]
    rcases hL with ⟨_, rfl, _⟩ | ⟨_, _, _, _, _, rfl, _⟩ <;> rcases hv.is with ⟨hl0, rfl, _⟩ | ⟨i0, rows, S0, _, rfl, _, _⟩
    all_goals
      try simp only [hti] at h5 hap
      simp [b_tree_each_api_Proc_w_0, h1, h5, h8, h9, h10, hi, hcl, hrow, hc', hap, hg, get0, set0, lt_tree_Clone_1, hw]
      exact hnx _ K4 _ S' (by omega) hlo2 hle2 hOL (by simp [h1]) (by simp) (by simp [h8]) (by simp [h9]) (by simp)

/-- A list, every element copied. -/
theorem eachP_eq (l : List (List UInt8 × List Sm)) (hl : l.length ≤ 20000) (hf : ∀ e ∈ l, DF PrR procV (eval tbl noExt) n_tree_Clone_1 e) (H : Heap) :
    ∃ v L, eval tbl noExt (wNo n_tree_each_api_Proc) [.sl 2 (l.map procV), .fn (.func n_tree_Clone_1) [] []] H = some (v, H ++ L) ∧ ∃ S, OL PrR 2 H.length (H ++ L) v l S := by
  have hcl : (l.map procV).length = l.length := by simp
  rw [eval_W tw_tree_each_api_Proc rfl]
  simp [c_tree_each_api_Proc_w, hcl]
  refine eachP_loop (eval tbl noExt) H.length H l hl hf (fun o => ∃ v L, o = some (v, H ++ L) ∧ ∃ S, OL PrR 2 H.length (H ++ L) v l S) _ (fun φ' K v S hK hn hv h5 => ⟨v, K.drop H.length, ?_, S, ?_⟩) l.length 0 _ H (.nils 2) [] (by omega) (fun _ _ => rfl) (Nat.le_refl _) ⟨List.nodup_nil, fun i hi => by simp at hi, .inl ⟨rfl, rfl, rfl⟩⟩ (by simp) (by simp) (by simp) (by simp) (by simp)
  · rw [← heap_more hK hn]
    rcases hv.is with ⟨_, rfl, _⟩ | ⟨q, _, _, _, rfl, _⟩ <;> simp [r_tree_each_api_Proc_w_0, h5]
  · rw [← heap_more hK hn]; exact hv


theorem eachO_loop (call : CallF) (n : Nat) (H : Heap) (l : List (List UInt8 × Ex)) (hl : l.length ≤ 20000) (hf : ∀ e ∈ l, DF OrR oracleV call n_tree_Clone_2 e) (Q : Option (V × Heap) → Prop) (k : List Item)
    (hexit : ∀ φ' K v S, (∀ i, i < n → K[i]? = H[i]?) → n ≤ K.length → OL OrR 5 n K v l S → Fr.get φ' 5 = v → Q (M call k φ' K)) :
    ∀ (j i : Nat) (φ : Fr) (K : Heap) (v : V) (S : List Nat), i + j = l.length → (∀ i, i < n → K[i]? = H[i]?) → n ≤ K.length → OL OrR 5 n K v (l.take i) S → Fr.get φ 1 = .fn (.func n_tree_Clone_2) [] [] → Fr.get φ 5 = v → Fr.get φ 8 = .sl 5 (l.map oracleV) → Fr.get φ 9 = .int .i64 l.length → Fr.get φ 10 = .int .i64 i →
      Q (M call (.code l_tree_each_api_Oracle_w_0 :: .blk 0 :: k) φ K) := by
  intro j
  induction j with
  | zero =>
    intro i φ K v S hj hK hn hv h1 h5 h8 h9 h10
    have hi : ¬ ((i : Int) < l.length) := by omega
    rw [List.take_of_length_le (by omega)] at hv
    rw [l_tree_each_api_Oracle_w_0, M_loop, ← l_tree_each_api_Oracle_w_0]
    simp [b_tree_each_api_Oracle_w_0, h1, h8, h9, h10, hi]
    exact hexit _ K v S hK hn hv (by simp [h5])
  | succ j ih =>
    intro i φ K v S hj hK hn hv h1 h5 h8 h9 h10
    have hi : (i : Int) < l.length := by omega
    have hil : i < l.length := by omega
    obtain ⟨e, he⟩ : ∃ e, l[i]? = some e := ⟨l[i], List.getElem?_eq_getElem hil⟩
    have hmem : e ∈ l := List.mem_of_getElem? he
    have hrow : (l.map oracleV)[i]? = some (oracleV e) := by rw [List.getElem?_map, he]; rfl
    have hcl : (l.map oracleV).length = l.length := by simp
    have hti : (l.take i).length = i := by simp; omega
    have hnext : l.take i ++ [e] = l.take (i + 1) := by rw [List.take_add_one, he]; rfl
    have hw : IntKind.i64.wrap ((i : Int) + 1) = ((i + 1 : Nat) : Int) := by rw [w64 (by omega) (by omega)]; rfl
    obtain ⟨cells, L, Se, hc, hR, hSe, hSat⟩ := hf e hmem (K ++ [some (oracleV e)])
    have hlen := OrR.len hR
    have hone : cells.all V.one = true := by
      obtain ⟨_, ⟨⟩⟩ := e
      obtain ⟨c, rfl, v0, rfl, hL⟩ := hR
      rcases hL with ⟨_, rfl, _⟩ | ⟨_, _, _, _, _, rfl, _⟩ <;> rfl
    have hst : cells.map V.strip = cells := by
      obtain ⟨_, ⟨⟩⟩ := e
      obtain ⟨c, rfl, v0, rfl, hL⟩ := hR
      rcases hL with ⟨_, rfl, _⟩ | ⟨_, _, _, _, _, rfl, _⟩ <;> rfl
    have hK3 : ∀ i ∈ Se, (K ++ some (oracleV e) :: (L ++ [some cells]))[i]? = ((K ++ [some (oracleV e)]) ++ L)[i]? := fun q hq => by
      have h2 := (hSat q hq).2
      rw [show K ++ some (oracleV e) :: (L ++ [some cells]) = ((K ++ [some (oracleV e)]) ++ L) ++ [some cells] by simp, List.getElem?_append_left h2]
    obtain ⟨q, K4, S', hap, hOL, hlo, hle⟩ := OL.push (R := OrR) (bytes := 72) (h := hv) (K3 := K ++ some (oracleV e) :: (L ++ [some cells])) (e := e) (cells := cells) (Se := Se) (fun _ _ _ _ _ h hS => OrR.frame h hS) (fun _ _ _ _ h => OrR.len h) (by omega) (by omega) hn (by rw [hti]; omega)
      (fun q hq => List.getElem?_append_left hq) (by simp) (OrR.frame hR hK3) hSe (fun q hq => ⟨by have := (hSat q hq).1; simp at this; omega, by have := (hSat q hq).2; simp at this ⊢; omega⟩) hone
    rw [hnext] at hOL
    rw [hti] at hap hOL
    have hlo2 : ∀ q, q < n → K4[q]? = H[q]? := fun q hq => by rw [hlo q hq, List.getElem?_append_left (by omega), hK q hq]
    have hle2 : n ≤ K4.length := by simp at hle; omega
    have hnx := ih (i + 1)
    have hg : ∀ (a b : Option (List V)), (K ++ a :: (L ++ [b]))[K.length + (L.length + 1)]? = some b := fun a b => by
      rw [List.getElem?_append_right (by omega), show K.length + (L.length + 1) - K.length = L.length + 1 by omega, List.getElem?_cons_succ, get0]
    obtain ⟨s0, ⟨op, m, s, x⟩⟩ := e
    obtain ⟨c, rfl, v0, rfl, hL⟩ := hR
    simp only [oracleV, Ex.cells] at hrow hc hap
    have hc' : call (wNo n_tree_Clone_2) [.agg [.str s0, .int .i64 op, .int .i64 m, .str s, .sl 4 (Ex.rows x)]] (K ++ [some [.str s0, .int .i64 op, .int .i64 m, .str s, .sl 4 (Ex.rows x)]]) = some (.agg [.str s0, .int .i64 op, .int .i64 m, .str s, v0], K ++ some [.str s0, .int .i64 op, .int .i64 m, .str s, .sl 4 (Ex.rows x)] :: L) := by
      rw [hc]; simp
    rw [l_tree_each_api_Oracle_w_0, M_loop, ← l_tree_each_api_Oracle_w_0]
    rcases hL with ⟨_, rfl, _⟩ | ⟨_, _, _, _, _, rfl, _⟩ <;> rcases hv.is with ⟨hl0, rfl, _⟩ | ⟨i0, rows, S0, _, rfl, _, _⟩
    all_goals
      try simp only [hti] at h5 hap
      simp [b_tree_each_api_Oracle_w_0, h1, h5, h8, h9, h10, hi, hcl, hrow, hc', hap, hg, get0, set0, lt_tree_Clone_2, hw]
      exact hnx _ K4 _ S' (by omega) hlo2 hle2 hOL (by simp [h1]) (by simp) (by simp [h8]) (by simp [h9]) (by simp)

/-- A list, every element copied. -/
theorem eachO_eq (l : List (List UInt8 × Ex)) (hl : l.length ≤ 20000) (hf : ∀ e ∈ l, DF OrR oracleV (eval tbl noExt) n_tree_Clone_2 e) (H : Heap) :
    ∃ v L, eval tbl noExt (wNo n_tree_each_api_Oracle) [.sl 5 (l.map oracleV), .fn (.func n_tree_Clone_2) [] []] H = some (v, H ++ L) ∧ ∃ S, OL OrR 5 H.length (H ++ L) v l S := by
  have hcl : (l.map oracleV).length = l.length := by simp
  rw [eval_W tw_tree_each_api_Oracle rfl]
  simp [c_tree_each_api_Oracle_w, hcl]
  refine eachO_loop (eval tbl noExt) H.length H l hl hf (fun o => ∃ v L, o = some (v, H ++ L) ∧ ∃ S, OL OrR 5 H.length (H ++ L) v l S) _ (fun φ' K v S hK hn hv h5 => ⟨v, K.drop H.length, ?_, S, ?_⟩) l.length 0 _ H (.nils 5) [] (by omega) (fun _ _ => rfl) (Nat.le_refl _) ⟨List.nodup_nil, fun i hi => by simp at hi, .inl ⟨rfl, rfl, rfl⟩⟩ (by simp) (by simp) (by simp) (by simp) (by simp)
  · rw [← heap_more hK hn]
    rcases hv.is with ⟨_, rfl, _⟩ | ⟨q, _, _, _, rfl, _⟩ <;> simp [r_tree_each_api_Oracle_w_0, h5]
  · rw [← heap_more hK hn]; exact hv


end Go.AM.Spec

namespace Go.AM.Spec
set_option linter.unusedVariables false
set_option linter.unusedSimpArgs false
set_option maxHeartbeats 4000000
set_option maxRecDepth 10000

theorem clonedExprDF : ∀ (n : Nat) (e : Ex), e.size ≤ n → n ≤ 20000 → DF ExR Ex.cells (eval tbl noExt) n_tree_clonedExpr e := by
  intro n
  induction n with
  | zero => intro e h; cases e; simp only [Ex.size] at h; omega
  | succ n ih =>
    intro e h hn
    obtain ⟨op, m, s, x⟩ := e
    simp only [Ex.size] at h
    have hx := Ex.sizes_ge x
    exact clonedExprW op m s x (by omega) fun e he => ih e (by have := Ex.sizes_mem he; omega) (by omega)

theorem getH {m : Nat} {K L : Heap} (hK : K.length = m) {S : List Nat} (hS : ∀ i ∈ S, m ≤ i) : ∀ i ∈ S, (K ++ L)[i]? = (List.replicate m none ++ L)[i]? := fun i hi => hid_get hK i (hS i hi)

theorem nodup3 {S1 S2 S3 : List Nat} {a b c d : Nat} (h1 : S1.Nodup) (h2 : S2.Nodup) (h3 : S3.Nodup) (g1 : ∀ i ∈ S1, a ≤ i ∧ i < b) (g2 : ∀ i ∈ S2, b ≤ i ∧ i < c) (g3 : ∀ i ∈ S3, c ≤ i ∧ i < d) (hab : a ≤ b) (hbc : b ≤ c) (hcd : c ≤ d) :
    (S1 ++ (S2 ++ S3)).Nodup ∧ ∀ i ∈ S1 ++ (S2 ++ S3), a ≤ i ∧ i < d := by
  refine ⟨List.nodup_append.2 ⟨h1, List.nodup_append.2 ⟨h2, h3, fun x hx y hy e => ?_⟩, fun x hx y hy e => ?_⟩, fun i hi => ?_⟩
  · have := g2 x hx; have := g3 y hy; omega
  · have := g1 x hx
    rcases List.mem_append.1 hy with hy | hy
    · have := g2 y hy; omega
    · have := g3 y hy; omega
  · rcases List.mem_append.1 hi with hi | hi
    · have := g1 i hi; omega
    · rcases List.mem_append.1 hi with hi | hi
      · have := g2 i hi; omega
      · have := g3 i hi; omega

theorem LRep.ofOL {k n : Nat} {K K' : Heap} {v : V} {l : List Ex} {S : List Nat} (h : OL ExR k n K v l S) (hS : ∀ i ∈ S, K'[i]? = K[i]?) : LRep k K' l.length v.strip S (Ex.reps K' l) :=
  h.rep.1.frame hS fun rows S' hs h => Ex.reps_frame (Ex.reps_G.1 h) fun i hi => hS i (hs i hi)
theorem LRep.ofOLS {k n : Nat} {K K' : Heap} {v : V} {l : List Sm} {S : List Nat} (h : OL SmR k n K v l S) (hS : ∀ i ∈ S, K'[i]? = K[i]?) : LRep k K' l.length v.strip S (Sm.reps K' l) :=
  h.rep.1.frame hS fun rows S' hs h => Sm.reps_frame (Sm.reps_G.1 h) fun i hi => hS i (hs i hi)

theorem clonedW (op : Int) (s : List UInt8) (m : Int) (x : List Ex) (b c : List Sm) (g : Bool) (hx : x.length ≤ 20000) (hb : b.length ≤ 20000) (hc : c.length ≤ 20000) (hfx : ∀ e ∈ x, DF ExR Ex.cells (eval tbl noExt) n_tree_clonedExpr e)
    (hfb : ∀ e ∈ b, DF SmR Sm.cells (eval tbl noExt) n_tree_cloned e) (hfc : ∀ e ∈ c, DF SmR Sm.cells (eval tbl noExt) n_tree_cloned e) : DF SmR Sm.cells (eval tbl noExt) n_tree_cloned (.mk op s m x b c g) := by
  intro K
  obtain ⟨v1, L1, hv1, S1, o1⟩ := eachE_eq x hx hfx (List.replicate (K.length + 2) none)
  rw [List.length_replicate] at o1
  obtain ⟨v2, L2, hv2, S2, o2⟩ := eachS_eq b hb hfb (List.replicate (K.length + 2 + L1.length) none)
  rw [List.length_replicate] at o2
  obtain ⟨v3, L3, hv3, S3, o3⟩ := eachS_eq c hc hfc (List.replicate (K.length + 2 + L1.length + L2.length) none)
  rw [List.length_replicate] at o3
  obtain ⟨hnd, hat⟩ := nodup3 o1.nd o2.nd o3.nd (fun i hi => by have := o1.at_ i hi; simp at this; exact this) (fun i hi => by have := o2.at_ i hi; simp at this; exact this) (fun i hi => by have := o3.at_ i hi; simp at this; exact this) (by omega) (by omega) (by omega)
  have f1 : ∀ a b : Option (List V), ∀ i ∈ S1, (K ++ a :: b :: (L1 ++ (L2 ++ L3)))[i]? = (List.replicate (K.length + 2) none ++ L1)[i]? := fun a b i hi => by
    have h1 := o1.at_ i hi
    have := hid_get (m := K.length + 2) (K := K ++ [a, b]) (L := L1 ++ (L2 ++ L3)) (by simp) i h1.1
    simp only [List.append_assoc, List.cons_append, List.nil_append] at this
    rw [this, ← List.append_assoc, List.getElem?_append_left h1.2]
  have f2 : ∀ a b : Option (List V), ∀ i ∈ S2, (K ++ a :: b :: (L1 ++ (L2 ++ L3)))[i]? = (List.replicate (K.length + 2 + L1.length) none ++ L2)[i]? := fun a b i hi => by
    have h1 := o2.at_ i hi
    have := hid_get (m := K.length + 2 + L1.length) (K := K ++ a :: b :: L1) (L := L2 ++ L3) (by simp; omega) i h1.1
    simp only [List.append_assoc, List.cons_append, List.nil_append] at this
    rw [this, ← List.append_assoc, List.getElem?_append_left h1.2]
  have f3 : ∀ a b : Option (List V), ∀ i ∈ S3, (K ++ a :: b :: (L1 ++ (L2 ++ L3)))[i]? = (List.replicate (K.length + 2 + L1.length + L2.length) none ++ L3)[i]? := fun a b i hi => by
    have h1 := o3.at_ i hi
    have := hid_get (m := K.length + 2 + L1.length + L2.length) (K := K ++ a :: b :: (L1 ++ L2)) (L := L3) (by simp; omega) i h1.1
    simp only [List.append_assoc, List.cons_append, List.nil_append] at this
    rw [this]
  refine ⟨[.int .i64 op, .str s, .int .i64 m, v1.strip, v2.strip, v3.strip, .bool g], some [.int .i64 op, .str s, .int .i64 m, v1, v2, v3, .bool g] :: some [.int .i64 op, .str s, .int .i64 m, v1.strip, v2.strip, v3.strip, .bool g] :: (L1 ++ (L2 ++ L3)), S1 ++ (S2 ++ S3), ?_, ⟨v1.strip, v2.strip, v3.strip, S1, S2, S3, rfl, rfl, .ofOL o1 (f1 _ _), .ofOLS o2 (f2 _ _), .ofOLS o3 (f3 _ _)⟩, hnd, fun i hi => ?_⟩
  · have e1 : K.length + (L1.length + 1 + 1) = K.length + 2 + L1.length := by omega
    have e2 : K.length + (L1.length + L2.length + 1 + 1) = K.length + 2 + L1.length + L2.length := by omega
    have e3 : K.length + (L1.length + (L2.length + 1 + 1)) = K.length + 2 + L1.length + L2.length := by omega
    rw [eval_W tw_tree_cloned rfl]
    rcases o1.is with ⟨_, rfl, _⟩ | ⟨q, _, _, _, rfl, _⟩ <;> rcases o2.is with ⟨_, rfl, _⟩ | ⟨q2, _, _, _, rfl, _⟩ <;> rcases o3.is with ⟨_, rfl, _⟩ | ⟨q3, _, _, _, rfl, _⟩ <;> simp [c_tree_cloned_w, Sm.cells, callOwn, hv1, hv2, hv3, get0, get1, set0, set1, e1, e2, e3]
  · have := hat i hi
    simp; omega

theorem clonedDF : ∀ (n : Nat) (e : Sm), e.size ≤ n → n ≤ 20000 → DF SmR Sm.cells (eval tbl noExt) n_tree_cloned e := by
  intro n
  induction n with
  | zero => intro e h; cases e; simp only [Sm.size] at h; omega
  | succ n ih =>
    intro e h hn
    obtain ⟨op, s, m, x, b, c, g⟩ := e
    simp only [Sm.size] at h
    have hx := Ex.sizes_ge x
    have hb := Sm.sizes_ge b
    have hc := Sm.sizes_ge c
    exact clonedW op s m x b c g (by omega) (by omega) (by omega) (fun e he => clonedExprDF 20000 e (by have := Ex.sizes_mem he; omega) (by omega))
      (fun e he => ih e (by have := Sm.sizes_mem he; omega) (by omega)) (fun e he => ih e (by have := Sm.sizes_mem he; omega) (by omega))

theorem eachS_small (l : List Sm) (h : Sm.sizes l ≤ 20000) (H : Heap) : ∃ v L, eval tbl noExt (wNo n_tree_each_api_Stmt) [.sl 7 (Sm.rows l), .fn (.func n_tree_cloned) [] []] H = some (v, H ++ L) ∧ ∃ S, OL SmR 7 H.length (H ++ L) v l S :=
  eachS_eq l (by have := Sm.sizes_ge l; omega) (fun e he => clonedDF 20000 e (by have := Sm.sizes_mem he; omega) (Nat.le_refl _)) H

theorem Clone_1DF (x : List UInt8 × List Sm) (h : Sm.sizes x.2 ≤ 20000) : DF PrR procV (eval tbl noExt) n_tree_Clone_1 x := by
  intro K
  obtain ⟨s, b⟩ := x
  obtain ⟨v, L, hv, S, hOL⟩ := eachS_small b h (List.replicate (K.length + 2) none)
  rw [List.length_replicate] at hOL
  have hfr : ∀ a b : Option (List V), ∀ i ∈ S, (K ++ a :: b :: L)[i]? = (List.replicate (K.length + 2) none ++ L)[i]? := fun a b i hi => by
    have := hid_get (m := K.length + 2) (K := K ++ [a, b]) (L := L) (by simp) i (hOL.at_ i hi).1
    simpa using this
  refine ⟨[.str s, v.strip], some [.str s, .sl 7 (Sm.rows b)] :: some [.str s, v.strip] :: L, S, ?_, ⟨v.strip, rfl, .ofOLS hOL (hfr _ _)⟩, hOL.nd, fun i hi => ?_⟩
  · rw [eval_W tw_tree_Clone_1 rfl]
    rcases hOL.is with ⟨_, rfl, _⟩ | ⟨q, _, _, _, rfl, _⟩ <;> simp [c_tree_Clone_1_w, procV, callOwn, hv, get0, get1, set0, set1]
  · have := hOL.at_ i hi
    simp at this ⊢; omega

theorem Clone_2DF (x : List UInt8 × Ex) (h : x.2.size ≤ 20000) : DF OrR oracleV (eval tbl noExt) n_tree_Clone_2 x := by
  intro K
  obtain ⟨s, e⟩ := x
  obtain ⟨cells, L, S, hv, hR, hnd, hat⟩ := clonedExprDF 20000 e h (Nat.le_refl _) (List.replicate (K.length + 2) none)
  rw [List.length_replicate] at hat
  have hfr : ∀ a b : Option (List V), ∀ i ∈ S, (K ++ a :: b :: L)[i]? = (List.replicate (K.length + 2) none ++ L)[i]? := fun a b i hi => by
    have := hid_get (m := K.length + 2) (K := K ++ [a, b]) (L := L) (by simp) i (hat i hi).1
    simpa using this
  refine ⟨.str s :: cells, some (.str s :: e.cells) :: some (.str s :: cells) :: L, S, ?_, ⟨cells, rfl, Ex.rep_frame hR (hfr _ _)⟩, hnd, fun i hi => ?_⟩
  · rw [eval_W tw_tree_Clone_2 rfl]
    obtain ⟨op, m, w, x⟩ := e
    obtain ⟨v0, rfl, hL⟩ := hR
    simp only [Ex.cells] at hv
    rcases hL with ⟨_, rfl, _⟩ | ⟨_, _, _, _, _, rfl, _⟩ <;> simp [c_tree_Clone_2_w, oracleV, Ex.cells, callOwn, hv, get0, get1, set0, set1]
  · have := hat i hi
    simp at this ⊢; omega

/-- A program in memory. -/
def Pg.rep (H : Heap) (p : Pg) (cells : List V) (S : List Nat) : Prop := ∃ v1 v2 v3 v4 S1 S2 S3 S4, cells = [v1, v2, v3, v4] ∧ S = S1 ++ (S2 ++ (S3 ++ S4)) ∧
  LRep 2 H p.procs.length v1 S1 (GReps PrR H p.procs) ∧ LRep 7 H p.main.length v2 S2 (Sm.reps H p.main) ∧ LRep 7 H p.recover.length v3 S3 (Sm.reps H p.recover) ∧ LRep 5 H p.oracles.length v4 S4 (GReps OrR H p.oracles)

theorem LRep.ofOLG {α : Type} {R : Heap → α → List V → List Nat → Prop} (hR : ∀ H K a r S, R H a r S → (∀ i ∈ S, K[i]? = H[i]?) → R K a r S) {k n : Nat} {K K' : Heap} {v : V} {l : List α} {S : List Nat} (h : OL R k n K v l S) (hS : ∀ i ∈ S, K'[i]? = K[i]?) : LRep k K' l.length v.strip S (GReps R K' l) :=
  h.rep.1.frame hS fun rows S' hs h => GReps.frame hR h fun i hi => hS i (hs i hi)

theorem CloneDF (p : Pg) (hps : p.size ≤ 20000) : DF (fun H p => Pg.rep H p) Pg.cells (eval tbl noExt) n_tree_Clone p := by
  have hs := p.size_eq
  have hp : ∀ x ∈ p.procs, Sm.sizes x.2 ≤ 20000 := fun x hx => by
    have hm : x.2 ∈ p.bodies := by simp only [Pg.bodies, List.mem_map]; exact ⟨x, hx, rfl⟩
    have := sizes_flatten hm
    omega
  have ho : ∀ x ∈ p.oracles, x.2.size ≤ 20000 := fun x hx => by
    have hm : x.2 ∈ p.exprs := by simp only [Pg.exprs, List.mem_map]; exact ⟨x, hx, rfl⟩
    have := Ex.sizes_mem hm
    omega
  intro K
  obtain ⟨v1, L1, hv1, S1, o1⟩ := eachP_eq p.procs (by omega) (fun x hx => Clone_1DF x (hp x hx)) (List.replicate (K.length + 2) none)
  rw [List.length_replicate] at o1
  obtain ⟨v2, L2, hv2, S2, o2⟩ := eachS_small p.main (by omega) (List.replicate (K.length + 2 + L1.length) none)
  rw [List.length_replicate] at o2
  obtain ⟨v3, L3, hv3, S3, o3⟩ := eachS_small p.recover (by omega) (List.replicate (K.length + 2 + L1.length + L2.length) none)
  rw [List.length_replicate] at o3
  obtain ⟨v4, L4, hv4, S4, o4⟩ := eachO_eq p.oracles (by omega) (fun x hx => Clone_2DF x (ho x hx)) (List.replicate (K.length + 2 + L1.length + L2.length + L3.length) none)
  rw [List.length_replicate] at o4
  obtain ⟨hnd', hat'⟩ := nodup3 o2.nd o3.nd o4.nd (fun i hi => by have := o2.at_ i hi; simp at this; exact this) (fun i hi => by have := o3.at_ i hi; simp at this; exact this) (fun i hi => by have := o4.at_ i hi; simp at this; exact this) (by omega) (by omega) (by omega)
  have hfin : ∀ a b : Option (List V), ∀ (m : Nat) (A Z L : Heap), K.length + 2 + A.length = m → ∀ i, m ≤ i → i < m + L.length → (K ++ a :: b :: (A ++ (L ++ Z)))[i]? = (List.replicate m none ++ L)[i]? := fun a b m A Z L hm i h1 h2 => by
    have := hid_get (m := m) (K := K ++ a :: b :: A) (L := L ++ Z) (by simp; omega) i h1
    simp only [List.append_assoc, List.cons_append, List.nil_append] at this
    rw [this, ← List.append_assoc, List.getElem?_append_left (by simpa using h2)]
  have f1 : ∀ a b : Option (List V), ∀ i ∈ S1, (K ++ a :: b :: (L1 ++ (L2 ++ (L3 ++ L4))))[i]? = (List.replicate (K.length + 2) none ++ L1)[i]? := fun a b i hi => by
    have h1 := o1.at_ i hi
    have := hfin a b (K.length + 2) [] (L2 ++ (L3 ++ L4)) L1 (by simp) i h1.1 (by simpa using h1.2)
    simpa using this
  have f2 : ∀ a b : Option (List V), ∀ i ∈ S2, (K ++ a :: b :: (L1 ++ (L2 ++ (L3 ++ L4))))[i]? = (List.replicate (K.length + 2 + L1.length) none ++ L2)[i]? := fun a b i hi => by
    have h1 := o2.at_ i hi
    have := hfin a b (K.length + 2 + L1.length) L1 (L3 ++ L4) L2 (by simp) i h1.1 (by simpa using h1.2)
    simpa using this
  have f3 : ∀ a b : Option (List V), ∀ i ∈ S3, (K ++ a :: b :: (L1 ++ (L2 ++ (L3 ++ L4))))[i]? = (List.replicate (K.length + 2 + L1.length + L2.length) none ++ L3)[i]? := fun a b i hi => by
    have h1 := o3.at_ i hi
    have := hfin a b (K.length + 2 + L1.length + L2.length) (L1 ++ L2) L4 L3 (by simp; omega) i h1.1 (by simpa using h1.2)
    simpa using this
  have f4 : ∀ a b : Option (List V), ∀ i ∈ S4, (K ++ a :: b :: (L1 ++ (L2 ++ (L3 ++ L4))))[i]? = (List.replicate (K.length + 2 + L1.length + L2.length + L3.length) none ++ L4)[i]? := fun a b i hi => by
    have h1 := o4.at_ i hi
    have := hfin a b (K.length + 2 + L1.length + L2.length + L3.length) (L1 ++ (L2 ++ L3)) [] L4 (by simp; omega) i h1.1 (by simpa using h1.2)
    simpa using this
  have hpc : p.cells = [.sl 2 (p.procs.map procV), .sl 7 (Sm.rows p.main), .sl 7 (Sm.rows p.recover), .sl 5 (p.oracles.map oracleV)] := rfl
  refine ⟨[v1.strip, v2.strip, v3.strip, v4.strip], some p.cells :: some [v1.strip, v2.strip, v3.strip, v4.strip] :: (L1 ++ (L2 ++ (L3 ++ L4))), S1 ++ (S2 ++ (S3 ++ S4)), ?_,
    ⟨v1.strip, v2.strip, v3.strip, v4.strip, S1, S2, S3, S4, rfl, rfl, .ofOLG (fun _ _ _ _ _ h hS => h.frame hS) o1 (f1 _ _), .ofOLS o2 (f2 _ _), .ofOLS o3 (f3 _ _), .ofOLG (fun _ _ _ _ _ h hS => h.frame hS) o4 (f4 _ _)⟩, ?_, fun i hi => ?_⟩
  · have e1 : K.length + (L1.length + 1 + 1) = K.length + 2 + L1.length := by omega
    have e2 : K.length + (L1.length + (L2.length + 1 + 1)) = K.length + 2 + L1.length + L2.length := by omega
    have e3 : K.length + (L1.length + (L2.length + (L3.length + 1 + 1))) = K.length + 2 + L1.length + L2.length + L3.length := by omega
    have e4 : K.length + (L1.length + L2.length + 1 + 1) = K.length + 2 + L1.length + L2.length := by omega
    have e5 : K.length + (L1.length + (L2.length + L3.length) + 1 + 1) = K.length + 2 + L1.length + L2.length + L3.length := by omega
    rw [eval_W tw_tree_Clone rfl, hpc]
    rcases o1.is with ⟨_, rfl, _⟩ | ⟨q, _, _, _, rfl, _⟩ <;> rcases o2.is with ⟨_, rfl, _⟩ | ⟨q2, _, _, _, rfl, _⟩ <;> rcases o3.is with ⟨_, rfl, _⟩ | ⟨q3, _, _, _, rfl, _⟩ <;> rcases o4.is with ⟨_, rfl, _⟩ | ⟨q4, _, _, _, rfl, _⟩ <;> simp [c_tree_Clone_w, callOwn, hv1, hv2, hv3, hv4, get0, get1, set0, set1, e1, e2, e3, e4, e5]
  · refine List.nodup_append.2 ⟨o1.nd, hnd', fun x hx y hy e => ?_⟩
    have h1 := o1.at_ x hx
    have h2 := hat' y hy
    simp at h1
    omega
  · rcases List.mem_append.1 hi with hi | hi
    · have := o1.at_ i hi; simp at this ⊢; omega
    · have := hat' i hi; simp; omega

end Go.AM.Spec

namespace Go.AM.Spec
set_option linter.unusedVariables false
set_option linter.unusedSimpArgs false
set_option maxHeartbeats 1000000
set_option maxRecDepth 10000

theorem frzL_app {f : Heap → V → Option (V × Heap)} : ∀ {a b us vs : List V} {H H1 H2 : Heap}, frzL f H a = some (us, H1) → frzL f H1 b = some (vs, H2) → frzL f H (a ++ b) = some (us ++ vs, H2)
  | [], b, us, vs, H, H1, H2, h1, h2 => by
    simp only [frzL, Option.some.injEq, Prod.mk.injEq] at h1
    obtain ⟨rfl, rfl⟩ := h1
    exact h2
  | x :: a, b, us, vs, H, H1, H2, h1, h2 => by
    simp only [frzL] at h1
    split at h1
    · rename_i u K hx
      split at h1
      · rename_i us' K' ha
        simp only [Option.some.injEq, Prod.mk.injEq] at h1
        obtain ⟨rfl, rfl⟩ := h1
        simp only [List.cons_append, frzL, hx, frzL_app ha h2]
      · cases h1
    · cases h1

theorem frzL_cons {f : Heap → V → Option (V × Heap)} {x u : V} {a us : List V} {H H1 H2 : Heap} (h1 : f H x = some (u, H1)) (h2 : frzL f H1 a = some (us, H2)) : frzL f H (x :: a) = some (u :: us, H2) := by
  simp only [frzL, h1, h2]

theorem frz_list {k n : Nat} {H : Heap} {len : Nat} {v : V} {S : List Nat} {RR : List (List V) → List Nat → Prop} {rowsL : List (List V)} (h : LRep k H len v S RR) (hnd : S.Nodup)
    (hfl : ∀ rows S', RR rows S' → rows.flatten.length = len * k) (hw : ∀ r ∈ rowsL, r.length = k) (hl : rowsL.length = len)
    (hin : ∀ rows S' i, RR rows S' → S'.Nodup → i ∉ S' → ∃ K, frzL (frzV n) (H.set i none) rows.flatten = some (rowsL.flatten, K) ∧ ∀ j, j ∉ S' → K[j]? = (H.set i none)[j]?) :
    ∃ K, frzV (n + 1) H v = some (.sl k rowsL, K) ∧ ∀ j, j ∉ S → K[j]? = H[j]? := by
  rcases h with ⟨rfl, rfl, rfl⟩ | ⟨i, cap, junk, rows, S', rfl, rfl, h1, h2, _⟩
  · rw [List.length_eq_zero_iff] at hl
    subst hl
    exact ⟨H, by simp [frzV], fun _ _ => rfl⟩
  · obtain ⟨hi, hS'⟩ := List.nodup_cons.1 hnd
    obtain ⟨K, hK, hfr⟩ := hin rows S' i h2 hS' hi
    have hf := hfl rows S' h2
    refine ⟨K, ?_, fun j hj => ?_⟩
    · rw [frzV, h1]
      simp only
      rw [if_pos (by rw [List.length_append]; omega), List.drop_zero, List.take_left' (by omega), hK]
      have := chunk_flatten (k := k) (rows := rowsL) [] hw
      rw [List.nil_append, hl, List.length_nil] at this
      simp only [this]
    · have hj1 : j ≠ i := fun h => hj (by simp [h])
      have hj2 : j ∉ S' := fun h => hj (by simp [h])
      rw [hfr j hj2, List.getElem?_set_ne (fun h => hj1 h.symm)]

theorem Ex.rows_w (l : List Ex) : ∀ r ∈ Ex.rows l, r.length = 4 := by
  intro r hr
  rw [Ex.rows_eq] at hr
  obtain ⟨e, _, rfl⟩ := List.mem_map.1 hr
  cases e; rfl
theorem Sm.rows_w (l : List Sm) : ∀ r ∈ Sm.rows l, r.length = 7 := by
  intro r hr
  rw [Sm.rows_eq] at hr
  obtain ⟨e, _, rfl⟩ := List.mem_map.1 hr
  cases e; rfl

mutual
theorem Ex.frz : ∀ (e : Ex) (n : Nat) (H : Heap) (cells : List V) (S : List Nat), e.rep H cells S → S.Nodup → e.size ≤ n → ∃ K, frzL (frzV n) H cells = some (e.cells, K) ∧ ∀ j, j ∉ S → K[j]? = H[j]?
  | .mk op m s x, n, H, cells, S, h, hnd, hn => by
    obtain ⟨v, rfl, hL⟩ := h
    simp only [Ex.size] at hn
    obtain ⟨n', rfl⟩ : ∃ n', n = n' + 1 := ⟨n - 1, by omega⟩
    obtain ⟨K, hK, hfr⟩ := frz_list (n := n') (rowsL := Ex.rows x) hL hnd (fun rows S' h => (Ex.reps_len h).2.2) (Ex.rows_w x) (Ex.rows_len x) (fun rows S' i h h2 h3 =>
      Ex.frzs x n' (H.set i none) rows S' (Ex.reps_frame h fun j hj => List.getElem?_set_ne (fun e => h3 (by rw [e]; exact hj))) h2 (by omega))
    refine ⟨K, ?_, hfr⟩
    refine frzL_cons (H1 := H) (by simp [frzV]) (frzL_cons (H1 := H) (by simp [frzV]) (frzL_cons (H1 := H) (by simp [frzV]) (frzL_cons hK rfl)))
theorem Ex.frzs : ∀ (l : List Ex) (n : Nat) (H : Heap) (rows : List (List V)) (S : List Nat), Ex.reps H l rows S → S.Nodup → Ex.sizes l ≤ n → ∃ K, frzL (frzV n) H rows.flatten = some ((Ex.rows l).flatten, K) ∧ ∀ j, j ∉ S → K[j]? = H[j]?
  | [], n, H, rows, S, ⟨h1, h2⟩, _, _ => ⟨H, by rw [h1]; rfl, fun _ _ => rfl⟩
  | e :: l, n, H, rows, S, ⟨r, rs, S1, S2, h1, h2, h3, h4⟩, hnd, hn => by
    subst h1; subst h2
    simp only [Ex.sizes] at hn
    obtain ⟨d1, d2, d3⟩ := List.nodup_append.1 hnd
    obtain ⟨K1, k1, f1⟩ := Ex.frz e n H r S1 h3 d1 (by omega)
    obtain ⟨K2, k2, f2⟩ := Ex.frzs l n K1 rs S2 (Ex.reps_frame h4 fun j hj => f1 j fun h => d3 j h j hj rfl) d2 (by omega)
    refine ⟨K2, by rw [List.flatten_cons, Ex.rows, List.flatten_cons]; exact frzL_app k1 k2, fun j hj => ?_⟩
    rw [f2 j fun h => hj (List.mem_append_right _ h), f1 j fun h => hj (List.mem_append_left _ h)]
end

mutual
theorem Sm.frz : ∀ (e : Sm) (n : Nat) (H : Heap) (cells : List V) (S : List Nat), e.rep H cells S → S.Nodup → e.size ≤ n → ∃ K, frzL (frzV n) H cells = some (e.cells, K) ∧ ∀ j, j ∉ S → K[j]? = H[j]?
  | .mk op s m x b c g, n, H, cells, S, h, hnd, hn => by
    obtain ⟨v1, v2, v3, S1, S2, S3, rfl, rfl, l1, l2, l3⟩ := h
    simp only [Sm.size] at hn
    obtain ⟨n', rfl⟩ : ∃ n', n = n' + 1 := ⟨n - 1, by omega⟩
    obtain ⟨d1, d23, d123⟩ := List.nodup_append.1 hnd
    obtain ⟨d2, d3, d4⟩ := List.nodup_append.1 d23
    obtain ⟨K1, k1, f1⟩ := frz_list (n := n') (rowsL := Ex.rows x) l1 d1 (fun rows S' h => (Ex.reps_len h).2.2) (Ex.rows_w x) (Ex.rows_len x) (fun rows S' i h h2 h3 =>
      Ex.frzs x n' (H.set i none) rows S' (Ex.reps_frame h fun j hj => List.getElem?_set_ne (fun e => h3 (by rw [e]; exact hj))) h2 (by omega))
    have l2' : LRep 7 K1 b.length v2 S2 (Sm.reps K1 b) := l2.frame (fun i hi => f1 i fun h => d123 i h i (List.mem_append_left _ hi) rfl) fun rows S' hs h => Sm.reps_frame h fun i hi => f1 i fun h => d123 i h i (List.mem_append_left _ (hs i hi)) rfl
    obtain ⟨K2, k2, f2⟩ := frz_list (n := n') (rowsL := Sm.rows b) l2' d2 (fun rows S' h => (Sm.reps_len h).2.2) (Sm.rows_w b) (Sm.rows_len b) (fun rows S' i h h2 h3 =>
      Sm.frzs b n' (K1.set i none) rows S' (Sm.reps_frame h fun j hj => List.getElem?_set_ne (fun e => h3 (by rw [e]; exact hj))) h2 (by omega))
    have g3 : ∀ i ∈ S3, K2[i]? = H[i]? := fun i hi => by
      rw [f2 i fun h => d4 i h i hi rfl, f1 i fun h => d123 i h i (List.mem_append_right _ hi) rfl]
    have l3' : LRep 7 K2 c.length v3 S3 (Sm.reps K2 c) := l3.frame g3 fun rows S' hs h => Sm.reps_frame h fun i hi => g3 i (hs i hi)
    obtain ⟨K3, k3, f3⟩ := frz_list (n := n') (rowsL := Sm.rows c) l3' d3 (fun rows S' h => (Sm.reps_len h).2.2) (Sm.rows_w c) (Sm.rows_len c) (fun rows S' i h h2 h3 =>
      Sm.frzs c n' (K2.set i none) rows S' (Sm.reps_frame h fun j hj => List.getElem?_set_ne (fun e => h3 (by rw [e]; exact hj))) h2 (by omega))
    refine ⟨K3, ?_, fun j hj => ?_⟩
    · refine frzL_cons (H1 := H) (by simp [frzV]) (frzL_cons (H1 := H) (by simp [frzV]) (frzL_cons (H1 := H) (by simp [frzV]) (frzL_cons k1 (frzL_cons k2 (frzL_cons k3 (frzL_cons (H1 := K3) (by simp [frzV]) rfl))))))
    · rw [f3 j fun h => hj (List.mem_append_right _ (List.mem_append_right _ h)), f2 j fun h => hj (List.mem_append_right _ (List.mem_append_left _ h)), f1 j fun h => hj (List.mem_append_left _ h)]
theorem Sm.frzs : ∀ (l : List Sm) (n : Nat) (H : Heap) (rows : List (List V)) (S : List Nat), Sm.reps H l rows S → S.Nodup → Sm.sizes l ≤ n → ∃ K, frzL (frzV n) H rows.flatten = some ((Sm.rows l).flatten, K) ∧ ∀ j, j ∉ S → K[j]? = H[j]?
  | [], n, H, rows, S, ⟨h1, h2⟩, _, _ => ⟨H, by rw [h1]; rfl, fun _ _ => rfl⟩
  | e :: l, n, H, rows, S, ⟨r, rs, S1, S2, h1, h2, h3, h4⟩, hnd, hn => by
    subst h1; subst h2
    simp only [Sm.sizes] at hn
    obtain ⟨d1, d2, d3⟩ := List.nodup_append.1 hnd
    obtain ⟨K1, k1, f1⟩ := Sm.frz e n H r S1 h3 d1 (by omega)
    obtain ⟨K2, k2, f2⟩ := Sm.frzs l n K1 rs S2 (Sm.reps_frame h4 fun j hj => f1 j fun h => d3 j h j hj rfl) d2 (by omega)
    refine ⟨K2, by rw [List.flatten_cons, Sm.rows, List.flatten_cons]; exact frzL_app k1 k2, fun j hj => ?_⟩
    rw [f2 j fun h => hj (List.mem_append_right _ h), f1 j fun h => hj (List.mem_append_left _ h)]
end

/-- A list of statements in memory, frozen. -/
theorem Sm.frzList {H : Heap} {l : List Sm} {v : V} {S : List Nat} (h : LRep 7 H l.length v S (Sm.reps H l)) (hnd : S.Nodup) {n : Nat} (hn : Sm.sizes l ≤ n) : ∃ K, frzV (n + 1) H v = some (.sl 7 (Sm.rows l), K) ∧ ∀ j, j ∉ S → K[j]? = H[j]? :=
  frz_list (n := n) (rowsL := Sm.rows l) h hnd (fun rows S' h => (Sm.reps_len h).2.2) (Sm.rows_w l) (Sm.rows_len l) (fun rows S' i h h2 h3 =>
    Sm.frzs l n (H.set i none) rows S' (Sm.reps_frame h fun j hj => List.getElem?_set_ne (fun e => h3 (by rw [e]; exact hj))) h2 hn)

end Go.AM.Spec

namespace Go.AM.Spec
set_option linter.unusedVariables false
set_option linter.unusedSimpArgs false
set_option maxHeartbeats 1000000

/-- The loop over the parts of two expressions. -/
theorem SameExpr_loop (call : CallF) (a0 a1 a2 b0 b1 b2 : V) (l m : List Ex) (hl : l.length ≤ 20000) (hm : m.length = l.length)
    (hf : ∀ e ∈ l, ∀ f, call n_flotsamref16_SameExpr [.agg e.cells, .agg f.cells] [] = some (.bool (e.same f), [])) (R : Option (V × Heap)) (k : List Item)
    (hret : ∀ φ' , Fr.get φ' 4 = .bool false → Ex.sames l m = false → retK k φ' [some [a0, a1, a2, .sl 4 (Ex.rows l)], some [b0, b1, b2, .sl 4 (Ex.rows m)]] = R)
    (hexit : ∀ φ', Ex.sames l m = true → M call k φ' [some [a0, a1, a2, .sl 4 (Ex.rows l)], some [b0, b1, b2, .sl 4 (Ex.rows m)]] = R) :
    ∀ (j i : Nat) (φ : Fr), i + j = l.length → Fr.get φ 2 = .ptr 0 0 → Fr.get φ 3 = .ptr 1 0 → Fr.get φ 5 = .int .i64 i → Ex.sames l m = Ex.sames (l.drop i) (m.drop i) →
      M call (.code l_flotsamref16_SameExpr_0 :: .blk 0 :: k) φ [some [a0, a1, a2, .sl 4 (Ex.rows l)], some [b0, b1, b2, .sl 4 (Ex.rows m)]] = R := by
  intro j
  induction j with
  | zero =>
    intro i φ hj h2 h3 h5 hs
    have hi : ¬ ((i : Int) < l.length) := by omega
    rw [List.drop_of_length_le (by omega), List.drop_of_length_le (by omega)] at hs
    have h := fun φ' => hexit φ' (by rw [hs]; rfl)
    rw [l_flotsamref16_SameExpr_0, M_loop, ← l_flotsamref16_SameExpr_0]
    simp [b_flotsamref16_SameExpr_0, h2, h3, h5, hi, Ex.rows_len, h]
  | succ j ih =>
    intro i φ hj h2 h3 h5 hs
    have hi : (i : Int) < l.length := by omega
    have hi' : (i : Int) < m.length := by omega
    obtain ⟨e, he, hmem, hd⟩ := at_some (l := l) (i := i) (by omega)
    obtain ⟨f, hf', hmem', hd'⟩ := at_some (l := m) (i := i) (by omega)
    have hre := Ex.rows_at he
    have hrf := Ex.rows_at hf'
    have hw : IntKind.i64.wrap ((i : Int) + 1) = ((i + 1 : Nat) : Int) := by rw [w64 (by omega) (by omega)]; rfl
    have hcall := hf e hmem f
    rw [hd, hd', Ex.sames] at hs
    obtain ⟨c0, c1, c2, c3, hc⟩ := e.cells_shape
    obtain ⟨d0, d1, d2, d3, hd0⟩ := f.cells_shape
    rw [hc, hd0] at hcall
    rw [hc] at hre
    rw [hd0] at hrf
    rw [l_flotsamref16_SameExpr_0, M_loop, ← l_flotsamref16_SameExpr_0]
    cases hb : e.same f with
    | false =>
      rw [hb, Bool.false_and] at hs
      rw [hb] at hcall
      simp [b_flotsamref16_SameExpr_0, h2, h3, h5, hi, Ex.rows_len, hi', hre, hrf, hcall]
      exact hret _ (by simp) hs
    | true =>
      rw [hb, Bool.true_and] at hs
      rw [hb] at hcall
      simp [b_flotsamref16_SameExpr_0, h2, h3, h5, hi, Ex.rows_len, hi', hre, hrf, hcall, hw]
      exact ih (i + 1) _ (by omega) (by simp [h2]) (by simp [h3]) (by simp) hs

theorem SameExpr_eq : ∀ (n : Nat) (a b : Ex), a.size ≤ n → n ≤ 20000 → eval tbl noExt n_flotsamref16_SameExpr [.agg a.cells, .agg b.cells] [] = some (.bool (a.same b), []) := by
  intro n
  induction n with
  | zero => intro a b h; cases a; simp only [Ex.size] at h; omega
  | succ n ih =>
    intro a b h hn
    obtain ⟨op, w, s, x⟩ := a
    obtain ⟨op', w', s', x'⟩ := b
    simp only [Ex.size] at h
    have hx := Ex.sizes_ge x
    have hf : ∀ e ∈ x, ∀ f, eval tbl noExt n_flotsamref16_SameExpr [.agg e.cells, .agg f.cells] [] = some (.bool (e.same f), []) := fun e he f => ih e f (by have := Ex.sizes_mem he; omega) (by omega)
    rw [eval_M rfl rfl t_flotsamref16_SameExpr rfl]
    by_cases h1 : op = op'
    · by_cases h2 : w = w'
      · by_cases h3 : s = s'
        · by_cases h4 : x.length = x'.length
          · have h4' : (x.length : Int) = x'.length := by omega
            simp [c_flotsamref16_SameExpr, Ex.cells, h1, h2, h3, h4', Ex.rows_len]
            refine SameExpr_loop _ _ _ _ _ _ _ x x' (by omega) h4.symm hf _ _ (fun φ' g hs => ?_) (fun φ' hs => ?_) x.length 0 _ (by omega) (by simp) (by simp) (by simp) (by simp)
            · simp [g, Ex.same, hs]
            · simp [r_flotsamref16_SameExpr_0, Ex.same, hs]
          · have h4' : ¬ (x.length : Int) = x'.length := by omega
            simp [c_flotsamref16_SameExpr, Ex.cells, h1, h2, h3, h4', Ex.rows_len, Ex.same, Ex.sames_len h4]
        · simp [c_flotsamref16_SameExpr, Ex.cells, h1, h2, h3, Ex.same]
      · simp [c_flotsamref16_SameExpr, Ex.cells, h1, h2, Ex.same]
    · simp [c_flotsamref16_SameExpr, Ex.cells, h1, Ex.same]

theorem SameStmt_loop (call : CallF) (a0 a1 a2 a4 a5 a6 b0 b1 b2 b4 b5 b6 : V) (l m : List Ex) (hl : l.length ≤ 20000) (hm : m.length = l.length)
    (hf : ∀ e ∈ l, ∀ f, call n_flotsamref16_SameExpr [.agg e.cells, .agg f.cells] [] = some (.bool (e.same f), [])) (R : Option (V × Heap)) (k : List Item)
    (hret : ∀ φ' , Fr.get φ' 4 = .bool false → Ex.sames l m = false → retK k φ' [some [a0, a1, a2, .sl 4 (Ex.rows l), a4, a5, a6], some [b0, b1, b2, .sl 4 (Ex.rows m), b4, b5, b6]] = R)
    (hexit : ∀ φ', Fr.get φ' 2 = .ptr 0 0 → Fr.get φ' 3 = .ptr 1 0 → Ex.sames l m = true → M call k φ' [some [a0, a1, a2, .sl 4 (Ex.rows l), a4, a5, a6], some [b0, b1, b2, .sl 4 (Ex.rows m), b4, b5, b6]] = R) :
    ∀ (j i : Nat) (φ : Fr), i + j = l.length → Fr.get φ 2 = .ptr 0 0 → Fr.get φ 3 = .ptr 1 0 → Fr.get φ 5 = .int .i64 i → Ex.sames l m = Ex.sames (l.drop i) (m.drop i) →
      M call (.code l_flotsamref16_SameStmt_0 :: .blk 0 :: k) φ [some [a0, a1, a2, .sl 4 (Ex.rows l), a4, a5, a6], some [b0, b1, b2, .sl 4 (Ex.rows m), b4, b5, b6]] = R := by
  intro j
  induction j with
  | zero =>
    intro i φ hj h2 h3 h5 hs
    have hi : ¬ ((i : Int) < l.length) := by omega
    rw [List.drop_of_length_le (by omega), List.drop_of_length_le (by omega)] at hs
    rw [l_flotsamref16_SameStmt_0, M_loop, ← l_flotsamref16_SameStmt_0]
    simp [b_flotsamref16_SameStmt_0, h2, h3, h5, hi, Ex.rows_len]
    exact hexit _ (by simp [h2]) (by simp [h3]) (by rw [hs]; rfl)
  | succ j ih =>
    intro i φ hj h2 h3 h5 hs
    have hi : (i : Int) < l.length := by omega
    have hi' : (i : Int) < m.length := by omega
    obtain ⟨e, he, hmem, hd⟩ := at_some (l := l) (i := i) (by omega)
    obtain ⟨f, hf', hmem', hd'⟩ := at_some (l := m) (i := i) (by omega)
    have hre := Ex.rows_at he
    have hrf := Ex.rows_at hf'
    have hw : IntKind.i64.wrap ((i : Int) + 1) = ((i + 1 : Nat) : Int) := by rw [w64 (by omega) (by omega)]; rfl
    have hcall := hf e hmem f
    rw [hd, hd', Ex.sames] at hs
    obtain ⟨c0, c1, c2, c3, hc⟩ := e.cells_shape
    obtain ⟨d0, d1, d2, d3, hd0⟩ := f.cells_shape
    rw [hc, hd0] at hcall
    rw [hc] at hre
    rw [hd0] at hrf
    rw [l_flotsamref16_SameStmt_0, M_loop, ← l_flotsamref16_SameStmt_0]
    cases hb : e.same f with
    | false =>
      rw [hb, Bool.false_and] at hs
      rw [hb] at hcall
      simp [b_flotsamref16_SameStmt_0, h2, h3, h5, hi, Ex.rows_len, hi', hre, hrf, hcall]
      exact hret _ (by simp) hs
    | true =>
      rw [hb, Bool.true_and] at hs
      rw [hb] at hcall
      simp [b_flotsamref16_SameStmt_0, h2, h3, h5, hi, Ex.rows_len, hi', hre, hrf, hcall, hw]
      exact ih (i + 1) _ (by omega) (by simp [h2]) (by simp [h3]) (by simp) hs

theorem SameStmts_loop (call : CallF) (l m : List Sm) (hl : l.length ≤ 20000) (hm : m.length = l.length)
    (hf : ∀ e ∈ l, ∀ f, call n_flotsamref16_SameStmt [.agg e.cells, .agg f.cells] [] = some (.bool (e.same f), [])) (R : Option (V × Heap)) (k : List Item)
    (hret : ∀ φ' , Fr.get φ' 4 = .bool false → Sm.sames l m = false → retK k φ' [] = R)
    (hexit : ∀ φ', Sm.sames l m = true → M call k φ' [] = R) :
    ∀ (j i : Nat) (φ : Fr), i + j = l.length → Fr.get φ 0 = .sl 7 (Sm.rows l) → Fr.get φ 1 = .sl 7 (Sm.rows m) → Fr.get φ 5 = .int .i64 i → Sm.sames l m = Sm.sames (l.drop i) (m.drop i) →
      M call (.code l_flotsamref16_SameStmts_0 :: .blk 0 :: k) φ [] = R := by
  intro j
  induction j with
  | zero =>
    intro i φ hj h2 h3 h5 hs
    have hi : ¬ ((i : Int) < l.length) := by omega
    rw [List.drop_of_length_le (by omega), List.drop_of_length_le (by omega)] at hs
    rw [l_flotsamref16_SameStmts_0, M_loop, ← l_flotsamref16_SameStmts_0]
    simp [b_flotsamref16_SameStmts_0, h2, h3, h5, hi, Sm.rows_len]
    exact hexit _ (by rw [hs]; rfl)
  | succ j ih =>
    intro i φ hj h2 h3 h5 hs
    have hi : (i : Int) < l.length := by omega
    have hi' : (i : Int) < m.length := by omega
    obtain ⟨e, he, hmem, hd⟩ := at_some (l := l) (i := i) (by omega)
    obtain ⟨f, hf', hmem', hd'⟩ := at_some (l := m) (i := i) (by omega)
    have hre := Sm.rows_at he
    have hrf := Sm.rows_at hf'
    have hw : IntKind.i64.wrap ((i : Int) + 1) = ((i + 1 : Nat) : Int) := by rw [w64 (by omega) (by omega)]; rfl
    have hcall := hf e hmem f
    rw [hd, hd', Sm.sames] at hs
    obtain ⟨c0, c1, c2, c3, c4, c5, c6, hc⟩ := e.cells_shape
    obtain ⟨d0, d1, d2, d3, d4, d5, d6, hd0⟩ := f.cells_shape
    rw [hc, hd0] at hcall
    rw [hc] at hre
    rw [hd0] at hrf
    rw [l_flotsamref16_SameStmts_0, M_loop, ← l_flotsamref16_SameStmts_0]
    cases hb : e.same f with
    | false =>
      rw [hb, Bool.false_and] at hs
      rw [hb] at hcall
      simp [b_flotsamref16_SameStmts_0, h2, h3, h5, hi, Sm.rows_len, hi', hre, hrf, hcall]
      exact hret _ (by simp) hs
    | true =>
      rw [hb, Bool.true_and] at hs
      rw [hb] at hcall
      simp [b_flotsamref16_SameStmts_0, h2, h3, h5, hi, Sm.rows_len, hi', hre, hrf, hcall, hw]
      exact ih (i + 1) _ (by omega) (by simp [h2]) (by simp [h3]) (by simp) hs

theorem SameStmts_step (l m : List Sm) (hl : l.length ≤ 20000)
    (hf : ∀ e ∈ l, ∀ f, eval tbl noExt n_flotsamref16_SameStmt [.agg e.cells, .agg f.cells] [] = some (.bool (e.same f), [])) :
    eval tbl noExt n_flotsamref16_SameStmts [.sl 7 (Sm.rows l), .sl 7 (Sm.rows m)] [] = some (.bool (Sm.sames l m), []) := by
  rw [eval_M rfl rfl t_flotsamref16_SameStmts rfl]
  by_cases h4 : l.length = m.length
  · have h4' : (l.length : Int) = m.length := by omega
    simp [c_flotsamref16_SameStmts, h4', Sm.rows_len]
    refine SameStmts_loop _ l m (by omega) h4.symm hf _ _ (fun φ' g hs => ?_) (fun φ' hs => ?_) l.length 0 _ (by omega) (by simp) (by simp) (by simp) (by simp)
    · simp [g, hs]
    · simp [r_flotsamref16_SameStmts_0, hs]
  · have h4' : ¬ (l.length : Int) = m.length := by omega
    simp [c_flotsamref16_SameStmts, h4', Sm.rows_len, Sm.sames_len h4]

theorem SameStmt_eq : ∀ (n : Nat) (a b : Sm), a.size ≤ n → n ≤ 20000 → eval tbl noExt n_flotsamref16_SameStmt [.agg a.cells, .agg b.cells] [] = some (.bool (a.same b), []) := by
  intro n
  induction n with
  | zero => intro a b h; cases a; simp only [Sm.size] at h; omega
  | succ n ih =>
    intro a b h hn
    obtain ⟨op, s, w, x, y, z, g⟩ := a
    obtain ⟨op', s', w', x', y', z', g'⟩ := b
    simp only [Sm.size] at h
    have hx := Ex.sizes_ge x
    have hy := Sm.sizes_ge y
    have hz := Sm.sizes_ge z
    have hf : ∀ e ∈ x, ∀ f, eval tbl noExt n_flotsamref16_SameExpr [.agg e.cells, .agg f.cells] [] = some (.bool (e.same f), []) := fun e he f => SameExpr_eq 20000 e f (by have := Ex.sizes_mem he; omega) (by omega)
    have e1 := SameStmts_step y y' (by omega) (fun e he f => ih e f (by have := Sm.sizes_mem he; omega) (by omega))
    have e2 := SameStmts_step z z' (by omega) (fun e he f => ih e f (by have := Sm.sizes_mem he; omega) (by omega))
    rw [eval_M rfl rfl t_flotsamref16_SameStmt rfl]
    by_cases h1 : op = op'
    · by_cases h2 : s = s'
      · by_cases h3 : w = w'
        · by_cases h5 : g = g'
          · by_cases h4 : x.length = x'.length
            · have h4' : (x.length : Int) = x'.length := by omega
              simp [c_flotsamref16_SameStmt, Sm.cells, h1, h2, h3, h4', h5, Ex.rows_len]
              refine SameStmt_loop _ _ _ _ _ _ _ _ _ _ _ _ _ x x' (by omega) h4.symm hf _ _ (fun φ' q hs => ?_) (fun φ' q2 q3 hs => ?_) x.length 0 _ (by omega) (by simp) (by simp) (by simp) (by simp)
              · simp [q, Sm.same, hs]
              · cases hv : Sm.sames y y' <;> simp [r_flotsamref16_SameStmt_0, Sm.same, hs, q2, q3, e1, e2, hv]
            · have h4' : ¬ (x.length : Int) = x'.length := by omega
              simp [c_flotsamref16_SameStmt, Sm.cells, h1, h2, h3, h4', h5, Ex.rows_len, Sm.same, Ex.sames_len h4]
          · simp [c_flotsamref16_SameStmt, Sm.cells, h1, h2, h3, h5, Sm.same]
        · simp [c_flotsamref16_SameStmt, Sm.cells, h1, h2, h3, Sm.same]
      · simp [c_flotsamref16_SameStmt, Sm.cells, h1, h2, Sm.same]
    · simp [c_flotsamref16_SameStmt, Sm.cells, h1, Sm.same]

theorem SameStmts_eq (l m : List Sm) (hl : l.length ≤ 20000) (he : ∀ e ∈ l, e.size ≤ 20000) :
    eval tbl noExt n_flotsamref16_SameStmts [.sl 7 (Sm.rows l), .sl 7 (Sm.rows m)] [] = some (.bool (Sm.sames l m), []) :=
  SameStmts_step l m hl fun e h f => SameStmt_eq 20000 e f (he e h) (Nat.le_refl _)


/-! The document's lists. -/
end Go.AM.Spec

namespace Go.AM.Spec
set_option linter.unusedVariables false
set_option linter.unusedSimpArgs false
set_option maxHeartbeats 1000000
set_option maxRecDepth 10000

/-- Are two lists the same, element by element? -/
def eqL {α : Type} (p : α → α → Bool) : List α → List α → Bool
  | [], [] => true
  | a :: l, b :: m => p a b && eqL p l m
  | _, _ => false
theorem eqL_len {α : Type} (p : α → α → Bool) : ∀ {l m : List α}, l.length ≠ m.length → eqL p l m = false
  | [], [], h => absurd rfl h
  | [], _ :: _, _ => rfl
  | _ :: _, [], _ => rfl
  | a :: l, b :: m, h => by simp only [eqL, eqL_len p (l := l) (m := m) (fun e => h (by simp [e])), Bool.and_false]
theorem eqL_rfl {α : Type} {p : α → α → Bool} : ∀ {l : List α}, (∀ a ∈ l, p a a = true) → eqL p l l = true
  | [], _ => rfl
  | a :: l, h => by simp only [eqL, h a (by simp), eqL_rfl (l := l) (fun b hb => h b (by simp [hb])), Bool.and_true]
theorem Ex.sames_L : ∀ l m : List Ex, Ex.sames l m = eqL Ex.same l m
  | [], [] => rfl
  | [], _ :: _ => rfl
  | _ :: _, [] => rfl
  | a :: l, b :: m => by simp only [Ex.sames, eqL, Ex.sames_L l m]
theorem Sm.sames_L : ∀ l m : List Sm, Sm.sames l m = eqL Sm.same l m
  | [], [] => rfl
  | [], _ :: _ => rfl
  | _ :: _, [] => rfl
  | a :: l, b :: m => by simp only [Sm.sames, eqL, Sm.sames_L l m]

theorem slices_EqualFunc_api_Expr_api_Expr_api_Expr_api_Expr_loop (p : Ex → Ex → Bool) (call : CallF) (N : Nat) (H : Heap) (l m : List (Ex)) (hl : l.length ≤ 1000000) (hlm : m.length = l.length)
    (hf : ∀ a ∈ l, ∀ b K, call n_tree_expressions [.agg (Ex.cells a), .agg (Ex.cells b)] K = some (.bool (p a b), K)) (Q : Option (V × Heap) → Prop) (k : List Item)
    (hret : ∀ φ' K, eqL p l m = false → K.take N = H → N ≤ K.length → Fr.get φ' 6 = .bool false → Q (retK k φ' K)) (hexit : ∀ φ' K, eqL p l m = true → K.take N = H → N ≤ K.length → Q (M call k φ' K)) :
    ∀ (j i : Nat) (φ : Fr) (K : Heap), i + j = l.length → K.take N = H → N ≤ K.length → eqL p l m = eqL p (l.drop i) (m.drop i) → Fr.get φ 1 = .sl 4 (m.map Ex.cells) → Fr.get φ 2 = .fn (.func n_tree_expressions) [] [] → Fr.get φ 15 = .sl 4 (l.map Ex.cells) → Fr.get φ 16 = .int .i64 l.length → Fr.get φ 17 = .int .i64 i →
      Q (M call (.code l_slices_EqualFunc_api_Expr_api_Expr_api_Expr_api_Expr_0 :: .blk 0 :: k) φ K) := by
  intro j
  induction j with
  | zero =>
    intro i φ K hj hK hn hs h1 h2 h15 h16 h17
    have hi : ¬ ((i : Int) < l.length) := by omega
    rw [List.drop_of_length_le (by omega), List.drop_of_length_le (by omega)] at hs
    rw [l_slices_EqualFunc_api_Expr_api_Expr_api_Expr_api_Expr_0, M_loop, ← l_slices_EqualFunc_api_Expr_api_Expr_api_Expr_api_Expr_0]
    simp [b_slices_EqualFunc_api_Expr_api_Expr_api_Expr_api_Expr_0, h1, h2, h15, h16, h17, hi]
    exact hexit _ _ (by rw [hs]; rfl) hK hn
  | succ j ih =>
    intro i φ K hj hK hn hs h1 h2 h15 h16 h17
    have hi : (i : Int) < l.length := by omega
    have hil : i < l.length := by omega
    have him : i < m.length := by omega
    obtain ⟨a, ha, hmem, hd⟩ := at_some hil
    obtain ⟨b, hb, _, hd2⟩ := at_some him
    have hra : (l.map Ex.cells)[i]? = some (Ex.cells a) := by rw [List.getElem?_map, ha]; rfl
    have hrb : (m.map Ex.cells)[i]? = some (Ex.cells b) := by rw [List.getElem?_map, hb]; rfl
    have hgl : (l.map Ex.cells).length = l.length := List.length_map ..
    have hgm : (m.map Ex.cells).length = l.length := by rw [List.length_map, hlm]
    have hw1 : IntKind.i64.wrap ((i : Int) + 1) = ((i + 1 : Nat) : Int) := by rw [w64 (by omega) (by omega)]; rfl
    have hcall := hf a hmem b
    rw [hd, hd2, eqL] at hs
    obtain ⟨a0, a1, a2, a3⟩ := a
    obtain ⟨b0, b1, b2, b3⟩ := b
    simp only [Ex.cells] at hra hrb hcall
    rw [l_slices_EqualFunc_api_Expr_api_Expr_api_Expr_api_Expr_0, M_loop, ← l_slices_EqualFunc_api_Expr_api_Expr_api_Expr_api_Expr_0]
    cases hv : p (.mk a0 a1 a2 a3) (.mk b0 b1 b2 b3) with
    | false =>
      rw [hv, Bool.false_and] at hs
      rw [hv] at hcall
      simp [b_slices_EqualFunc_api_Expr_api_Expr_api_Expr_api_Expr_0, h1, h2, h15, h16, h17, hi, hgl, hgm, hra, hrb, hcall, get0, set0, get1, set1, lt_tree_expressions]
      exact hret _ _ hs (take_more hK hn _) (by simp; omega) (by simp)
    | true =>
      rw [hv, Bool.true_and] at hs
      rw [hv] at hcall
      simp [b_slices_EqualFunc_api_Expr_api_Expr_api_Expr_api_Expr_0, h1, h2, h15, h16, h17, hi, hgl, hgm, hra, hrb, hcall, get0, set0, get1, set1, lt_tree_expressions, hw1]
      exact ih (i + 1) _ _ (by omega) (take_more hK hn _) (by simp; omega) hs (by simp [h1]) (by simp [h2]) (by simp [h15]) (by simp [h16]) (by simp)

theorem slices_EqualFunc_api_Expr_api_Expr_api_Expr_api_Expr_eq (p : Ex → Ex → Bool) (H : Heap) (l m : List (Ex)) (hl : l.length ≤ 1000000)
    (hf : ∀ a ∈ l, ∀ b K, eval tbl noExt n_tree_expressions [.agg (Ex.cells a), .agg (Ex.cells b)] K = some (.bool (p a b), K)) :
    eval tbl noExt n_slices_EqualFunc_api_Expr_api_Expr_api_Expr_api_Expr [.sl 4 (l.map Ex.cells), .sl 4 (m.map Ex.cells), .fn (.func n_tree_expressions) [] []] H = some (.bool (eqL p l m), H) := by
  rw [eval_M rfl rfl t_slices_EqualFunc_api_Expr_api_Expr_api_Expr_api_Expr rfl]
  by_cases h4 : l.length = m.length
  · have h4' : (l.length : Int) = m.length := by omega
    simp [c_slices_EqualFunc_api_Expr_api_Expr_api_Expr_api_Expr, h4']
    refine slices_EqualFunc_api_Expr_api_Expr_api_Expr_api_Expr_loop p _ H.length H l m hl h4.symm hf (fun o => o = some (.bool (eqL p l m), H)) _ (fun φ' K hs hK hn g => ?_) (fun φ' K hs hK hn => ?_) l.length 0 _ _ (by omega) (by simp) (Nat.le_refl _) rfl (by simp) (by simp) (by simp) (by simp [h4]) (by simp)
    · simp [g, hs, hK]
    · simp [r_slices_EqualFunc_api_Expr_api_Expr_api_Expr_api_Expr_0, hs, hK]
  · have h4' : ¬ (l.length : Int) = m.length := by omega
    simp [c_slices_EqualFunc_api_Expr_api_Expr_api_Expr_api_Expr, h4', eqL_len p h4]

theorem slices_EqualFunc_api_Stmt_api_Stmt_api_Stmt_api_Stmt_loop (p : Sm → Sm → Bool) (call : CallF) (N : Nat) (H : Heap) (l m : List (Sm)) (hl : l.length ≤ 1000000) (hlm : m.length = l.length)
    (hf : ∀ a ∈ l, ∀ b K, call n_tree_statements [.agg (Sm.cells a), .agg (Sm.cells b)] K = some (.bool (p a b), K)) (Q : Option (V × Heap) → Prop) (k : List Item)
    (hret : ∀ φ' K, eqL p l m = false → K.take N = H → N ≤ K.length → Fr.get φ' 6 = .bool false → Q (retK k φ' K)) (hexit : ∀ φ' K, eqL p l m = true → K.take N = H → N ≤ K.length → Q (M call k φ' K)) :
    ∀ (j i : Nat) (φ : Fr) (K : Heap), i + j = l.length → K.take N = H → N ≤ K.length → eqL p l m = eqL p (l.drop i) (m.drop i) → Fr.get φ 1 = .sl 7 (m.map Sm.cells) → Fr.get φ 2 = .fn (.func n_tree_statements) [] [] → Fr.get φ 15 = .sl 7 (l.map Sm.cells) → Fr.get φ 16 = .int .i64 l.length → Fr.get φ 17 = .int .i64 i →
      Q (M call (.code l_slices_EqualFunc_api_Stmt_api_Stmt_api_Stmt_api_Stmt_0 :: .blk 0 :: k) φ K) := by
  intro j
  induction j with
  | zero =>
    intro i φ K hj hK hn hs h1 h2 h15 h16 h17
    have hi : ¬ ((i : Int) < l.length) := by omega
    rw [List.drop_of_length_le (by omega), List.drop_of_length_le (by omega)] at hs
    rw [l_slices_EqualFunc_api_Stmt_api_Stmt_api_Stmt_api_Stmt_0, M_loop, ← l_slices_EqualFunc_api_Stmt_api_Stmt_api_Stmt_api_Stmt_0]
    simp [b_slices_EqualFunc_api_Stmt_api_Stmt_api_Stmt_api_Stmt_0, h1, h2, h15, h16, h17, hi]
    exact hexit _ _ (by rw [hs]; rfl) hK hn
  | succ j ih =>
    intro i φ K hj hK hn hs h1 h2 h15 h16 h17
    have hi : (i : Int) < l.length := by omega
    have hil : i < l.length := by omega
    have him : i < m.length := by omega
    obtain ⟨a, ha, hmem, hd⟩ := at_some hil
    obtain ⟨b, hb, _, hd2⟩ := at_some him
    have hra : (l.map Sm.cells)[i]? = some (Sm.cells a) := by rw [List.getElem?_map, ha]; rfl
    have hrb : (m.map Sm.cells)[i]? = some (Sm.cells b) := by rw [List.getElem?_map, hb]; rfl
    have hgl : (l.map Sm.cells).length = l.length := List.length_map ..
    have hgm : (m.map Sm.cells).length = l.length := by rw [List.length_map, hlm]
    have hw1 : IntKind.i64.wrap ((i : Int) + 1) = ((i + 1 : Nat) : Int) := by rw [w64 (by omega) (by omega)]; rfl
    have hcall := hf a hmem b
    rw [hd, hd2, eqL] at hs
    obtain ⟨a0, a1, a2, a3, a4, a5, a6⟩ := a
    obtain ⟨b0, b1, b2, b3, b4, b5, b6⟩ := b
    simp only [Sm.cells] at hra hrb hcall
    rw [l_slices_EqualFunc_api_Stmt_api_Stmt_api_Stmt_api_Stmt_0, M_loop, ← l_slices_EqualFunc_api_Stmt_api_Stmt_api_Stmt_api_Stmt_0]
    cases hv : p (.mk a0 a1 a2 a3 a4 a5 a6) (.mk b0 b1 b2 b3 b4 b5 b6) with
    | false =>
      rw [hv, Bool.false_and] at hs
      rw [hv] at hcall
      simp [b_slices_EqualFunc_api_Stmt_api_Stmt_api_Stmt_api_Stmt_0, h1, h2, h15, h16, h17, hi, hgl, hgm, hra, hrb, hcall, get0, set0, get1, set1, lt_tree_statements]
      exact hret _ _ hs (take_more hK hn _) (by simp; omega) (by simp)
    | true =>
      rw [hv, Bool.true_and] at hs
      rw [hv] at hcall
      simp [b_slices_EqualFunc_api_Stmt_api_Stmt_api_Stmt_api_Stmt_0, h1, h2, h15, h16, h17, hi, hgl, hgm, hra, hrb, hcall, get0, set0, get1, set1, lt_tree_statements, hw1]
      exact ih (i + 1) _ _ (by omega) (take_more hK hn _) (by simp; omega) hs (by simp [h1]) (by simp [h2]) (by simp [h15]) (by simp [h16]) (by simp)

theorem slices_EqualFunc_api_Stmt_api_Stmt_api_Stmt_api_Stmt_eq (p : Sm → Sm → Bool) (H : Heap) (l m : List (Sm)) (hl : l.length ≤ 1000000)
    (hf : ∀ a ∈ l, ∀ b K, eval tbl noExt n_tree_statements [.agg (Sm.cells a), .agg (Sm.cells b)] K = some (.bool (p a b), K)) :
    eval tbl noExt n_slices_EqualFunc_api_Stmt_api_Stmt_api_Stmt_api_Stmt [.sl 7 (l.map Sm.cells), .sl 7 (m.map Sm.cells), .fn (.func n_tree_statements) [] []] H = some (.bool (eqL p l m), H) := by
  rw [eval_M rfl rfl t_slices_EqualFunc_api_Stmt_api_Stmt_api_Stmt_api_Stmt rfl]
  by_cases h4 : l.length = m.length
  · have h4' : (l.length : Int) = m.length := by omega
    simp [c_slices_EqualFunc_api_Stmt_api_Stmt_api_Stmt_api_Stmt, h4']
    refine slices_EqualFunc_api_Stmt_api_Stmt_api_Stmt_api_Stmt_loop p _ H.length H l m hl h4.symm hf (fun o => o = some (.bool (eqL p l m), H)) _ (fun φ' K hs hK hn g => ?_) (fun φ' K hs hK hn => ?_) l.length 0 _ _ (by omega) (by simp) (Nat.le_refl _) rfl (by simp) (by simp) (by simp) (by simp [h4]) (by simp)
    · simp [g, hs, hK]
    · simp [r_slices_EqualFunc_api_Stmt_api_Stmt_api_Stmt_api_Stmt_0, hs, hK]
  · have h4' : ¬ (l.length : Int) = m.length := by omega
    simp [c_slices_EqualFunc_api_Stmt_api_Stmt_api_Stmt_api_Stmt, h4', eqL_len p h4]

theorem lists_api_Stmt_eq (p : Sm → Sm → Bool) (H : Heap) (l m : List (Sm)) (hl : l.length ≤ 1000000)
    (hf : ∀ a ∈ l, ∀ b K, eval tbl noExt n_tree_statements [.agg (Sm.cells a), .agg (Sm.cells b)] K = some (.bool (p a b), K)) :
    eval tbl noExt n_tree_lists_api_Stmt [.sl 7 (l.map Sm.cells), .sl 7 (m.map Sm.cells), .fn (.func n_tree_statements) [] []] H = some (.bool (eqL p l m), H) := by
  have he := slices_EqualFunc_api_Stmt_api_Stmt_api_Stmt_api_Stmt_eq p H l m hl hf
  rw [eval_M rfl rfl t_tree_lists_api_Stmt rfl]
  by_cases h4 : l.length = m.length
  · have h4' : (l.length : Int) = m.length := by omega
    simp [c_tree_lists_api_Stmt, h4', he, lt_slices_EqualFunc_api_Stmt_api_Stmt_api_Stmt_api_Stmt]
  · have h4' : ¬ (l.length : Int) = m.length := by omega
    simp [c_tree_lists_api_Stmt, h4', eqL_len p h4]

def procCells (x : List UInt8 × List Sm) : List V := [.str x.1, .sl 7 (Sm.rows x.2)]
def oracleCells (x : List UInt8 × Ex) : List V := .str x.1 :: x.2.cells

theorem slices_EqualFunc_api_Proc_api_Proc_api_Proc_api_Proc_loop (p : List UInt8 × List Sm → List UInt8 × List Sm → Bool) (call : CallF) (N : Nat) (H : Heap) (l m : List (List UInt8 × List Sm)) (hl : l.length ≤ 1000000) (hlm : m.length = l.length)
    (hf : ∀ a ∈ l, ∀ b K, call n_tree_Same_1 [.agg (procCells a), .agg (procCells b)] K = some (.bool (p a b), K)) (Q : Option (V × Heap) → Prop) (k : List Item)
    (hret : ∀ φ' K, eqL p l m = false → K.take N = H → N ≤ K.length → Fr.get φ' 6 = .bool false → Q (retK k φ' K)) (hexit : ∀ φ' K, eqL p l m = true → K.take N = H → N ≤ K.length → Q (M call k φ' K)) :
    ∀ (j i : Nat) (φ : Fr) (K : Heap), i + j = l.length → K.take N = H → N ≤ K.length → eqL p l m = eqL p (l.drop i) (m.drop i) → Fr.get φ 1 = .sl 2 (m.map procCells) → Fr.get φ 2 = .fn (.func n_tree_Same_1) [] [] → Fr.get φ 15 = .sl 2 (l.map procCells) → Fr.get φ 16 = .int .i64 l.length → Fr.get φ 17 = .int .i64 i →
      Q (M call (.code l_slices_EqualFunc_api_Proc_api_Proc_api_Proc_api_Proc_0 :: .blk 0 :: k) φ K) := by
  intro j
  induction j with
  | zero =>
    intro i φ K hj hK hn hs h1 h2 h15 h16 h17
    have hi : ¬ ((i : Int) < l.length) := by omega
    rw [List.drop_of_length_le (by omega), List.drop_of_length_le (by omega)] at hs
    rw [l_slices_EqualFunc_api_Proc_api_Proc_api_Proc_api_Proc_0, M_loop, ← l_slices_EqualFunc_api_Proc_api_Proc_api_Proc_api_Proc_0]
    simp [b_slices_EqualFunc_api_Proc_api_Proc_api_Proc_api_Proc_0, h1, h2, h15, h16, h17, hi]
    exact hexit _ _ (by rw [hs]; rfl) hK hn
  | succ j ih =>
    intro i φ K hj hK hn hs h1 h2 h15 h16 h17
    have hi : (i : Int) < l.length := by omega
    have hil : i < l.length := by omega
    have him : i < m.length := by omega
    obtain ⟨a, ha, hmem, hd⟩ := at_some hil
    obtain ⟨b, hb, _, hd2⟩ := at_some him
    have hra : (l.map procCells)[i]? = some (procCells a) := by rw [List.getElem?_map, ha]; rfl
    have hrb : (m.map procCells)[i]? = some (procCells b) := by rw [List.getElem?_map, hb]; rfl
    have hgl : (l.map procCells).length = l.length := List.length_map ..
    have hgm : (m.map procCells).length = l.length := by rw [List.length_map, hlm]
    have hw1 : IntKind.i64.wrap ((i : Int) + 1) = ((i + 1 : Nat) : Int) := by rw [w64 (by omega) (by omega)]; rfl
    have hcall := hf a hmem b
    rw [hd, hd2, eqL] at hs
    obtain ⟨a0, a1⟩ := a
    obtain ⟨b0, b1⟩ := b
    simp only [procCells] at hra hrb hcall
    rw [l_slices_EqualFunc_api_Proc_api_Proc_api_Proc_api_Proc_0, M_loop, ← l_slices_EqualFunc_api_Proc_api_Proc_api_Proc_api_Proc_0]
    cases hv : p (a0, a1) (b0, b1) with
    | false =>
      rw [hv, Bool.false_and] at hs
      rw [hv] at hcall
      simp [b_slices_EqualFunc_api_Proc_api_Proc_api_Proc_api_Proc_0, h1, h2, h15, h16, h17, hi, hgl, hgm, hra, hrb, hcall, get0, set0, get1, set1, lt_tree_Same_1]
      exact hret _ _ hs (take_more hK hn _) (by simp; omega) (by simp)
    | true =>
      rw [hv, Bool.true_and] at hs
      rw [hv] at hcall
      simp [b_slices_EqualFunc_api_Proc_api_Proc_api_Proc_api_Proc_0, h1, h2, h15, h16, h17, hi, hgl, hgm, hra, hrb, hcall, get0, set0, get1, set1, lt_tree_Same_1, hw1]
      exact ih (i + 1) _ _ (by omega) (take_more hK hn _) (by simp; omega) hs (by simp [h1]) (by simp [h2]) (by simp [h15]) (by simp [h16]) (by simp)

theorem slices_EqualFunc_api_Proc_api_Proc_api_Proc_api_Proc_eq (p : List UInt8 × List Sm → List UInt8 × List Sm → Bool) (H : Heap) (l m : List (List UInt8 × List Sm)) (hl : l.length ≤ 1000000)
    (hf : ∀ a ∈ l, ∀ b K, eval tbl noExt n_tree_Same_1 [.agg (procCells a), .agg (procCells b)] K = some (.bool (p a b), K)) :
    eval tbl noExt n_slices_EqualFunc_api_Proc_api_Proc_api_Proc_api_Proc [.sl 2 (l.map procCells), .sl 2 (m.map procCells), .fn (.func n_tree_Same_1) [] []] H = some (.bool (eqL p l m), H) := by
  rw [eval_M rfl rfl t_slices_EqualFunc_api_Proc_api_Proc_api_Proc_api_Proc rfl]
  by_cases h4 : l.length = m.length
  · have h4' : (l.length : Int) = m.length := by omega
    simp [c_slices_EqualFunc_api_Proc_api_Proc_api_Proc_api_Proc, h4']
    refine slices_EqualFunc_api_Proc_api_Proc_api_Proc_api_Proc_loop p _ H.length H l m hl h4.symm hf (fun o => o = some (.bool (eqL p l m), H)) _ (fun φ' K hs hK hn g => ?_) (fun φ' K hs hK hn => ?_) l.length 0 _ _ (by omega) (by simp) (Nat.le_refl _) rfl (by simp) (by simp) (by simp) (by simp [h4]) (by simp)
    · simp [g, hs, hK]
    · simp [r_slices_EqualFunc_api_Proc_api_Proc_api_Proc_api_Proc_0, hs, hK]
  · have h4' : ¬ (l.length : Int) = m.length := by omega
    simp [c_slices_EqualFunc_api_Proc_api_Proc_api_Proc_api_Proc, h4', eqL_len p h4]

theorem lists_api_Proc_eq (p : List UInt8 × List Sm → List UInt8 × List Sm → Bool) (H : Heap) (l m : List (List UInt8 × List Sm)) (hl : l.length ≤ 1000000)
    (hf : ∀ a ∈ l, ∀ b K, eval tbl noExt n_tree_Same_1 [.agg (procCells a), .agg (procCells b)] K = some (.bool (p a b), K)) :
    eval tbl noExt n_tree_lists_api_Proc [.sl 2 (l.map procCells), .sl 2 (m.map procCells), .fn (.func n_tree_Same_1) [] []] H = some (.bool (eqL p l m), H) := by
  have he := slices_EqualFunc_api_Proc_api_Proc_api_Proc_api_Proc_eq p H l m hl hf
  rw [eval_M rfl rfl t_tree_lists_api_Proc rfl]
  by_cases h4 : l.length = m.length
  · have h4' : (l.length : Int) = m.length := by omega
    simp [c_tree_lists_api_Proc, h4', he, lt_slices_EqualFunc_api_Proc_api_Proc_api_Proc_api_Proc]
  · have h4' : ¬ (l.length : Int) = m.length := by omega
    simp [c_tree_lists_api_Proc, h4', eqL_len p h4]

theorem slices_EqualFunc_api_Oracle_api_Oracle_api_Oracle_api_Oracle_loop (p : List UInt8 × Ex → List UInt8 × Ex → Bool) (call : CallF) (N : Nat) (H : Heap) (l m : List (List UInt8 × Ex)) (hl : l.length ≤ 1000000) (hlm : m.length = l.length)
    (hf : ∀ a ∈ l, ∀ b K, call n_tree_Same_2 [.agg (oracleCells a), .agg (oracleCells b)] K = some (.bool (p a b), K)) (Q : Option (V × Heap) → Prop) (k : List Item)
    (hret : ∀ φ' K, eqL p l m = false → K.take N = H → N ≤ K.length → Fr.get φ' 6 = .bool false → Q (retK k φ' K)) (hexit : ∀ φ' K, eqL p l m = true → K.take N = H → N ≤ K.length → Q (M call k φ' K)) :
    ∀ (j i : Nat) (φ : Fr) (K : Heap), i + j = l.length → K.take N = H → N ≤ K.length → eqL p l m = eqL p (l.drop i) (m.drop i) → Fr.get φ 1 = .sl 5 (m.map oracleCells) → Fr.get φ 2 = .fn (.func n_tree_Same_2) [] [] → Fr.get φ 15 = .sl 5 (l.map oracleCells) → Fr.get φ 16 = .int .i64 l.length → Fr.get φ 17 = .int .i64 i →
      Q (M call (.code l_slices_EqualFunc_api_Oracle_api_Oracle_api_Oracle_api_Oracle_0 :: .blk 0 :: k) φ K) := by
  intro j
  induction j with
  | zero =>
    intro i φ K hj hK hn hs h1 h2 h15 h16 h17
    have hi : ¬ ((i : Int) < l.length) := by omega
    rw [List.drop_of_length_le (by omega), List.drop_of_length_le (by omega)] at hs
    rw [l_slices_EqualFunc_api_Oracle_api_Oracle_api_Oracle_api_Oracle_0, M_loop, ← l_slices_EqualFunc_api_Oracle_api_Oracle_api_Oracle_api_Oracle_0]
    simp [b_slices_EqualFunc_api_Oracle_api_Oracle_api_Oracle_api_Oracle_0, h1, h2, h15, h16, h17, hi]
    exact hexit _ _ (by rw [hs]; rfl) hK hn
  | succ j ih =>
    intro i φ K hj hK hn hs h1 h2 h15 h16 h17
    have hi : (i : Int) < l.length := by omega
    have hil : i < l.length := by omega
    have him : i < m.length := by omega
    obtain ⟨a, ha, hmem, hd⟩ := at_some hil
    obtain ⟨b, hb, _, hd2⟩ := at_some him
    have hra : (l.map oracleCells)[i]? = some (oracleCells a) := by rw [List.getElem?_map, ha]; rfl
    have hrb : (m.map oracleCells)[i]? = some (oracleCells b) := by rw [List.getElem?_map, hb]; rfl
    have hgl : (l.map oracleCells).length = l.length := List.length_map ..
    have hgm : (m.map oracleCells).length = l.length := by rw [List.length_map, hlm]
    have hw1 : IntKind.i64.wrap ((i : Int) + 1) = ((i + 1 : Nat) : Int) := by rw [w64 (by omega) (by omega)]; rfl
    have hcall := hf a hmem b
    rw [hd, hd2, eqL] at hs
    obtain ⟨a, ⟨a0, a1, a2, a3⟩⟩ := a
    obtain ⟨b, ⟨b0, b1, b2, b3⟩⟩ := b
    simp only [oracleCells, Ex.cells] at hra hrb hcall
    rw [l_slices_EqualFunc_api_Oracle_api_Oracle_api_Oracle_api_Oracle_0, M_loop, ← l_slices_EqualFunc_api_Oracle_api_Oracle_api_Oracle_api_Oracle_0]
    cases hv : p (a, .mk a0 a1 a2 a3) (b, .mk b0 b1 b2 b3) with
    | false =>
      rw [hv, Bool.false_and] at hs
      rw [hv] at hcall
      simp [b_slices_EqualFunc_api_Oracle_api_Oracle_api_Oracle_api_Oracle_0, h1, h2, h15, h16, h17, hi, hgl, hgm, hra, hrb, hcall, get0, set0, get1, set1, lt_tree_Same_2]
      exact hret _ _ hs (take_more hK hn _) (by simp; omega) (by simp)
    | true =>
      rw [hv, Bool.true_and] at hs
      rw [hv] at hcall
      simp [b_slices_EqualFunc_api_Oracle_api_Oracle_api_Oracle_api_Oracle_0, h1, h2, h15, h16, h17, hi, hgl, hgm, hra, hrb, hcall, get0, set0, get1, set1, lt_tree_Same_2, hw1]
      exact ih (i + 1) _ _ (by omega) (take_more hK hn _) (by simp; omega) hs (by simp [h1]) (by simp [h2]) (by simp [h15]) (by simp [h16]) (by simp)

theorem slices_EqualFunc_api_Oracle_api_Oracle_api_Oracle_api_Oracle_eq (p : List UInt8 × Ex → List UInt8 × Ex → Bool) (H : Heap) (l m : List (List UInt8 × Ex)) (hl : l.length ≤ 1000000)
    (hf : ∀ a ∈ l, ∀ b K, eval tbl noExt n_tree_Same_2 [.agg (oracleCells a), .agg (oracleCells b)] K = some (.bool (p a b), K)) :
    eval tbl noExt n_slices_EqualFunc_api_Oracle_api_Oracle_api_Oracle_api_Oracle [.sl 5 (l.map oracleCells), .sl 5 (m.map oracleCells), .fn (.func n_tree_Same_2) [] []] H = some (.bool (eqL p l m), H) := by
  rw [eval_M rfl rfl t_slices_EqualFunc_api_Oracle_api_Oracle_api_Oracle_api_Oracle rfl]
  by_cases h4 : l.length = m.length
  · have h4' : (l.length : Int) = m.length := by omega
    simp [c_slices_EqualFunc_api_Oracle_api_Oracle_api_Oracle_api_Oracle, h4']
    refine slices_EqualFunc_api_Oracle_api_Oracle_api_Oracle_api_Oracle_loop p _ H.length H l m hl h4.symm hf (fun o => o = some (.bool (eqL p l m), H)) _ (fun φ' K hs hK hn g => ?_) (fun φ' K hs hK hn => ?_) l.length 0 _ _ (by omega) (by simp) (Nat.le_refl _) rfl (by simp) (by simp) (by simp) (by simp [h4]) (by simp)
    · simp [g, hs, hK]
    · simp [r_slices_EqualFunc_api_Oracle_api_Oracle_api_Oracle_api_Oracle_0, hs, hK]
  · have h4' : ¬ (l.length : Int) = m.length := by omega
    simp [c_slices_EqualFunc_api_Oracle_api_Oracle_api_Oracle_api_Oracle, h4', eqL_len p h4]

theorem lists_api_Oracle_eq (p : List UInt8 × Ex → List UInt8 × Ex → Bool) (H : Heap) (l m : List (List UInt8 × Ex)) (hl : l.length ≤ 1000000)
    (hf : ∀ a ∈ l, ∀ b K, eval tbl noExt n_tree_Same_2 [.agg (oracleCells a), .agg (oracleCells b)] K = some (.bool (p a b), K)) :
    eval tbl noExt n_tree_lists_api_Oracle [.sl 5 (l.map oracleCells), .sl 5 (m.map oracleCells), .fn (.func n_tree_Same_2) [] []] H = some (.bool (eqL p l m), H) := by
  have he := slices_EqualFunc_api_Oracle_api_Oracle_api_Oracle_api_Oracle_eq p H l m hl hf
  rw [eval_M rfl rfl t_tree_lists_api_Oracle rfl]
  by_cases h4 : l.length = m.length
  · have h4' : (l.length : Int) = m.length := by omega
    simp [c_tree_lists_api_Oracle, h4', he, lt_slices_EqualFunc_api_Oracle_api_Oracle_api_Oracle_api_Oracle]
  · have h4' : ¬ (l.length : Int) = m.length := by omega
    simp [c_tree_lists_api_Oracle, h4', eqL_len p h4]

end Go.AM.Spec

namespace Go.AM.Spec
set_option linter.unusedVariables false
set_option linter.unusedSimpArgs false
set_option maxHeartbeats 1000000
set_option maxRecDepth 10000

theorem expressions_eq : ∀ (n : Nat) (a b : Ex), a.size ≤ n → n ≤ 20000 → ∀ H, eval tbl noExt n_tree_expressions [.agg a.cells, .agg b.cells] H = some (.bool (a.same b), H) := by
  intro n
  induction n with
  | zero => intro a b h; cases a; simp only [Ex.size] at h; omega
  | succ n ih =>
    intro a b h hn H
    obtain ⟨op, m, s, x⟩ := a
    obtain ⟨op', m', s', x'⟩ := b
    simp only [Ex.size] at h
    have hx := Ex.sizes_ge x
    have he := slices_EqualFunc_api_Expr_api_Expr_api_Expr_api_Expr_eq Ex.same [] x x' (by omega) (fun e he b K => ih e b (by have := Ex.sizes_mem he; omega) (by omega) K)
    rw [← Ex.rows_eq, ← Ex.rows_eq, ← Ex.sames_L] at he
    rw [eval_M rfl rfl t_tree_expressions rfl]
    by_cases h1 : op = op'
    · by_cases h2 : m = m'
      · by_cases h3 : s = s'
        · cases hv : Ex.sames x x' <;> rw [hv] at he <;> simp [c_tree_expressions, Ex.cells, h1, h2, h3, he, get0, get1, set0, set1, Ex.same, hv, lt_slices_EqualFunc_api_Expr_api_Expr_api_Expr_api_Expr]
        · simp [c_tree_expressions, Ex.cells, h1, h2, h3, get0, get1, Ex.same]
      · simp [c_tree_expressions, Ex.cells, h1, h2, get0, get1, Ex.same]
    · simp [c_tree_expressions, Ex.cells, h1, get0, get1, Ex.same]

theorem statements_eq : ∀ (n : Nat) (a b : Sm), a.size ≤ n → n ≤ 20000 → ∀ H, eval tbl noExt n_tree_statements [.agg a.cells, .agg b.cells] H = some (.bool (a.same b), H) := by
  intro n
  induction n with
  | zero => intro a b h; cases a; simp only [Sm.size] at h; omega
  | succ n ih =>
    intro a b h hn H
    obtain ⟨op, s, w, x, y, z, g⟩ := a
    obtain ⟨op', s', w', x', y', z', g'⟩ := b
    simp only [Sm.size] at h
    have hx := Ex.sizes_ge x
    have hy := Sm.sizes_ge y
    have hz := Sm.sizes_ge z
    have he := slices_EqualFunc_api_Expr_api_Expr_api_Expr_api_Expr_eq Ex.same [] x x' (by omega) (fun e he b K => expressions_eq 20000 e b (by have := Ex.sizes_mem he; omega) (by omega) K)
    have e1 := lists_api_Stmt_eq Sm.same [] y y' (by omega) (fun e he f K => ih e f (by have := Sm.sizes_mem he; omega) (by omega) K)
    have e2 := lists_api_Stmt_eq Sm.same [] z z' (by omega) (fun e he f K => ih e f (by have := Sm.sizes_mem he; omega) (by omega) K)
    rw [← Ex.rows_eq, ← Ex.rows_eq, ← Ex.sames_L] at he
    rw [← Sm.rows_eq, ← Sm.rows_eq, ← Sm.sames_L] at e1 e2
    rw [eval_M rfl rfl t_tree_statements rfl]
    by_cases h1 : op = op'
    · by_cases h3 : w = w'
      · by_cases h2 : s = s'
        · by_cases h5 : g = g'
          · cases hv : Ex.sames x x' with
            | false => rw [hv] at he; simp [c_tree_statements, Sm.cells, h1, h2, h3, h5, he, get0, get1, Sm.same, hv]
            | true =>
              rw [hv] at he
              cases hv1 : Sm.sames y y' with
              | false => rw [hv1] at e1; simp [c_tree_statements, Sm.cells, h1, h2, h3, h5, he, e1, get0, get1, Sm.same, hv, hv1]
              | true =>
                rw [hv1] at e1
                cases hv2 : Sm.sames z z' <;> rw [hv2] at e2 <;> simp [c_tree_statements, Sm.cells, h1, h2, h3, h5, he, e1, e2, get0, get1, Sm.same, hv, hv1, hv2]
          · simp [c_tree_statements, Sm.cells, h1, h2, h3, h5, get0, get1, Sm.same]
        · simp [c_tree_statements, Sm.cells, h1, h2, h3, get0, get1, Sm.same]
      · simp [c_tree_statements, Sm.cells, h1, h3, get0, get1, Sm.same]
    · simp [c_tree_statements, Sm.cells, h1, get0, get1, Sm.same]

theorem sts_eq (l m : List Sm) (h : Sm.sizes l ≤ 20000) (H : Heap) : eval tbl noExt n_tree_lists_api_Stmt [.sl 7 (Sm.rows l), .sl 7 (Sm.rows m), .fn (.func n_tree_statements) [] []] H = some (.bool (Sm.sames l m), H) := by
  have hl := Sm.sizes_ge l
  have e1 := lists_api_Stmt_eq Sm.same H l m (by omega) (fun e he f K => statements_eq 20000 e f (by have := Sm.sizes_mem he; omega) (by omega) K)
  rwa [← Sm.rows_eq, ← Sm.rows_eq, ← Sm.sames_L] at e1

def prSame (x y : List UInt8 × List Sm) : Bool := x.1 == y.1 && Sm.sames x.2 y.2
def orSame (x y : List UInt8 × Ex) : Bool := x.1 == y.1 && x.2.same y.2
/-- Are two programs the same? -/
def Pg.same (p q : Pg) : Bool := eqL prSame p.procs q.procs && Sm.sames p.main q.main && Sm.sames p.recover q.recover && eqL orSame p.oracles q.oracles

theorem Same_1_eq (x y : List UInt8 × List Sm) (h : Sm.sizes x.2 ≤ 20000) (H : Heap) : eval tbl noExt n_tree_Same_1 [.agg (procCells x), .agg (procCells y)] H = some (.bool (prSame x y), H) := by
  obtain ⟨s, b⟩ := x
  obtain ⟨s', b'⟩ := y
  have he := sts_eq b b' h []
  rw [eval_M rfl rfl t_tree_Same_1 rfl]
  by_cases h1 : s = s'
  · cases hv : Sm.sames b b' <;> rw [hv] at he <;> simp [c_tree_Same_1, procCells, prSame, h1, he, get0, get1, hv]
  · simp [c_tree_Same_1, procCells, prSame, h1, get0, get1]
theorem Same_2_eq (x y : List UInt8 × Ex) (h : x.2.size ≤ 20000) (H : Heap) : eval tbl noExt n_tree_Same_2 [.agg (oracleCells x), .agg (oracleCells y)] H = some (.bool (orSame x y), H) := by
  obtain ⟨s, b⟩ := x
  obtain ⟨s', b'⟩ := y
  have he := expressions_eq 20000 b b' h (Nat.le_refl _) []
  obtain ⟨a0, a1, a2, a3⟩ := b
  obtain ⟨b0, b1, b2, b3⟩ := b'
  simp only [Ex.cells] at he
  rw [eval_M rfl rfl t_tree_Same_2 rfl]
  by_cases h1 : s = s'
  · cases hv : Ex.same (.mk a0 a1 a2 a3) (.mk b0 b1 b2 b3) <;> rw [hv] at he <;> simp [c_tree_Same_2, oracleCells, Ex.cells, orSame, h1, he, get0, get1, hv]
  · simp [c_tree_Same_2, oracleCells, Ex.cells, orSame, h1, get0, get1]

theorem Pg.small (p : Pg) (h : p.size ≤ 20000) : (∀ x ∈ p.procs, Sm.sizes x.2 ≤ 20000) ∧ (∀ x ∈ p.oracles, x.2.size ≤ 20000) ∧ p.procs.length ≤ 20000 ∧ p.oracles.length ≤ 20000 ∧ Sm.sizes p.main ≤ 20000 ∧ Sm.sizes p.recover ≤ 20000 := by
  have hs := p.size_eq
  refine ⟨fun x hx => ?_, fun x hx => ?_, by omega, by omega, by omega, by omega⟩
  · have hm : x.2 ∈ p.bodies := by simp only [Pg.bodies, List.mem_map]; exact ⟨x, hx, rfl⟩
    have := sizes_flatten hm
    omega
  · have hm : x.2 ∈ p.exprs := by simp only [Pg.exprs, List.mem_map]; exact ⟨x, hx, rfl⟩
    have := Ex.sizes_mem hm
    omega

theorem Same_eq (p q : Pg) (h : p.size ≤ 20000) : eval tbl noExt n_tree_Same [.agg p.cells, .agg q.cells] [] = some (.bool (p.same q), []) := by
  obtain ⟨hp, ho, hpl, hol, hm, hr⟩ := p.small h
  have e0 := fun H => lists_api_Proc_eq prSame H p.procs q.procs (by omega) (fun x hx y K => Same_1_eq x y (hp x hx) K)
  have e1 := sts_eq p.main q.main hm []
  have e2 := sts_eq p.recover q.recover hr []
  have e3 := fun H => lists_api_Oracle_eq orSame H p.oracles q.oracles (by omega) (fun x hx y K => Same_2_eq x y (ho x hx) K)
  have hpc : p.cells = [.sl 2 (p.procs.map procCells), .sl 7 (Sm.rows p.main), .sl 7 (Sm.rows p.recover), .sl 5 (p.oracles.map oracleCells)] := rfl
  have hqc : q.cells = [.sl 2 (q.procs.map procCells), .sl 7 (Sm.rows q.main), .sl 7 (Sm.rows q.recover), .sl 5 (q.oracles.map oracleCells)] := rfl
  rw [eval_M rfl rfl t_tree_Same rfl, hpc, hqc]
  cases hv0 : eqL prSame p.procs q.procs with
  | false => rw [hv0] at e0; simp [c_tree_Same, e0, Pg.same, hv0, get0, get1, lt_tree_lists_api_Proc]
  | true =>
    rw [hv0] at e0
    cases hv1 : Sm.sames p.main q.main with
    | false => rw [hv1] at e1; simp [c_tree_Same, e0, e1, Pg.same, hv0, hv1, get0, get1, lt_tree_lists_api_Proc]
    | true =>
      rw [hv1] at e1
      cases hv2 : Sm.sames p.recover q.recover with
      | false => rw [hv2] at e2; simp [c_tree_Same, e0, e1, e2, Pg.same, hv0, hv1, hv2, get0, get1, lt_tree_lists_api_Proc]
      | true =>
        rw [hv2] at e2
        cases hv3 : eqL orSame p.oracles q.oracles <;> rw [hv3] at e3 <;> simp [c_tree_Same, e0, e1, e2, e3, Pg.same, hv0, hv1, hv2, hv3, get0, get1, lt_tree_lists_api_Proc, lt_tree_lists_api_Oracle]

theorem prSame_rfl (x : List UInt8 × List Sm) : prSame x x = true := by simp [prSame, Sm.sames_rfl]
theorem orSame_rfl (x : List UInt8 × Ex) : orSame x x = true := by simp [orSame, Ex.same_rfl]
theorem Pg.same_rfl (p : Pg) : p.same p = true := by
  simp [Pg.same, eqL_rfl (fun a _ => prSame_rfl a), eqL_rfl (fun a _ => orSame_rfl a), Sm.sames_rfl]

end Go.AM.Spec
