/-
 The parts of this proof that speak of the functions one by one.
-/
import Derived.Test.YtfmbdcpdoffdeaaGreatDoorSpc
namespace Go.AM.Spec
set_option linter.unusedVariables false
set_option linter.unusedSimpArgs false
set_option maxHeartbeats 1000000
set_option maxRecDepth 10000
abbrev iv (n : Int) : V := .int .i64 n
structure Si where
 kind : Int
 part : Int
 way : List Int
 deep : Int
 deriving DecidableEq
def Si.cells (s : Si) : List V := iv s.kind :: iv s.part :: (s.way.map iv ++ [iv s.deep])
def Si.ok (s : Si) : Prop := s.way.length = 8
theorem map_iv_strip (l : List Int) : (l.map iv).map V.strip = l.map iv := by
 rw [List.map_map]; rfl
theorem eqCells_ints : ∀ (n : Nat) (k : IntKind) (xs ys : List Int), xs.length = n → ys.length = n → eqCells (List.replicate n (.int k)) (xs.map (V.int k)) (ys.map (V.int k)) = some (decide (xs = ys))
 | 0, _, [], [], _, _ => rfl
 | n + 1, k, x :: xs, y :: ys, hx, hy => by
  simp only [List.length_cons, Nat.add_right_cancel_iff] at hx hy
  simp [List.replicate, eqCells, eqCells_ints n k xs ys hx hy]
 | 0, _, _ :: _, _, h, _ => by simp at h
 | 0, _, [], _ :: _, _, h => by simp at h
 | n + 1, _, [], _, h, _ => by simp at h
 | n + 1, _, _ :: _, [], _, h => by simp at h
variable {s : Si}
theorem Si.len (h : s.ok) : s.cells.length = 11 := by simp [Si.cells, show s.way.length = 8 from h]
theorem Si.c0 : s.cells[0]? = some (iv s.kind) := rfl
theorem Si.c1 : s.cells[1]? = some (iv s.part) := rfl
theorem Si.c10 (h : s.ok) : s.cells[10]? = some (iv s.deep) := by
 have h8 : s.way.length = 8 := h
 simp only [Si.cells, List.getElem?_cons_succ]
 rw [List.getElem?_append_right (by simp [h8])]
 simp [h8]
theorem Si.cw {i : Nat} {w : Int} (h : s.way[i]? = some w) : s.cells[2 + i]? = some (iv w) := by
 have hi : i < s.way.length := by
  rcases Nat.lt_or_ge i s.way.length with h1 | h1
  ·exact h1
  ·rw [List.getElem?_eq_none h1] at h; cases h
 rw [Nat.add_comm]
 simp only [Si.cells, List.getElem?_cons_succ]
 rw [List.getElem?_append_left (by simpa using hi), List.getElem?_map, h]; rfl
theorem Si.strip : s.cells.map V.strip = s.cells := by simp [Si.cells, Function.comp_def, V.strip]
theorem Si.one : s.cells.all V.one = true := by simp [Si.cells, V.one]
theorem Si.under (n : Nat) : V.underAll n s.cells = true := by
 have : ∀ l : List Int, V.underAll n (l.map iv ++ [iv s.deep]) = true := by
  intro l
  induction l with
  | nil => simp [V.underAll, V.under]
  | cons x l ih => simp only [List.map_cons, List.cons_append, V.underAll, V.under, ih, Bool.and_self]
 simp only [Si.cells, V.underAll, V.under, this, Bool.and_self]
theorem Si.take (h : s.ok) : s.cells.take 11 = s.cells := List.take_of_length_le (by rw [Si.len h]; omega)
theorem Si.ways (h : s.ok) : (s.cells.drop 2).take 8 = s.way.map iv := by
 have h8 : s.way.length = 8 := h
 simp only [Si.cells, List.drop_succ_cons, List.drop_zero]
 rw [List.take_append_of_le_length (by simp [h8]), List.take_of_length_le (by simp [h8])]
def Si.may (s : Si) : Bool := decide (1 ≤ s.deep) && (decide (s.deep ≤ 8) && (s.way.all (fun w => decide (0 ≤ w)) && (s.way.drop s.deep.toNat).all (fun w => decide (w = 0))))
def mayFrom (deep : Int) : Nat → List Int → Bool
 | _, [] => true
 | i, w :: ws => decide (0 ≤ w) && ((!decide (deep ≤ i) || decide (w = 0)) && mayFrom deep (i + 1) ws)
theorem mayFrom_eq (deep : Int) (h1 : 1 ≤ deep) : ∀ (i : Nat) (l : List Int), mayFrom deep i l = (l.all (fun w => decide (0 ≤ w)) && (l.drop (deep.toNat - i)).all (fun w => decide (w = 0)))
 | i, [] => by simp [mayFrom]
 | i, w :: ws => by
  rw [mayFrom, mayFrom_eq deep h1 (i + 1) ws]
  by_cases h : deep ≤ i
  ·have e1 : deep.toNat - i = 0 := by omega
   have e2 : deep.toNat - (i + 1) = 0 := by omega
   rw [e1, e2]
   simp only [h, decide_true, Bool.not_true, Bool.false_or, List.all_cons, List.drop_zero]
   cases decide (0 ≤ w) <;> cases decide (w = 0) <;> simp
  ·obtain ⟨m, hm⟩ : ∃ m, deep.toNat - i = m + 1 := ⟨deep.toNat - i - 1, by omega⟩
   have e2 : deep.toNat - (i + 1) = m := by omega
   rw [hm, e2]
   simp only [h, decide_false, Bool.not_false, Bool.true_or, List.all_cons, List.drop_succ_cons, Bool.true_and, Bool.and_assoc]
variable {s : Si}
def zeroS (k : Nat) : List V := List.replicate k (V.int .i64 0)
theorem zeroS_eq (k : Nat) : zeroS k = (List.replicate k (0 : Int)).map iv := by simp [zeroS]
theorem setMany_mid (a b vs cs : List V) (h : vs.length = b.length) : setMany (a ++ (b ++ cs)) a.length vs = a ++ (vs ++ cs) := by
 induction vs generalizing a b with
 | nil =>
  have : b = [] := List.eq_nil_of_length_eq_zero (by simpa using h.symm)
  subst this; rfl
 | cons v vs ih =>
  match b, h with
  | x :: b, h =>
   simp only [List.length_cons, Nat.add_right_cancel_iff] at h
   simp only [setMany]
   have e1 : (a ++ (x :: b ++ cs)).set a.length v = (a ++ [v]) ++ (b ++ cs) := by
    rw [List.set_append_right _ _ (Nat.le_refl _)]
    simp
   have := ih (a ++ [v]) b h
   rw [e1]
   simp only [List.length_append, List.length_singleton] at this
   rw [this]; simp
theorem Si.cut (ok : s.ok) (d : Nat) (hd : d ≤ 8) : (((setMany s.cells (2 + d) (zeroS (8 - d))).drop 2).take 8) = (s.way.take d ++ List.replicate (8 - d) 0).map iv := by
 have h8 : s.way.length = 8 := ok
 have e : s.cells = (iv s.kind :: iv s.part :: (s.way.take d).map iv) ++ ((s.way.drop d).map iv ++ [iv s.deep]) := by
  simp only [Si.cells, List.cons_append, ← List.append_assoc, ← List.map_append, List.take_append_drop]
 have hl : (iv s.kind :: iv s.part :: (s.way.take d).map iv).length = 2 + d := by simp; omega
 have h1 := setMany_mid (iv s.kind :: iv s.part :: (s.way.take d).map iv) ((s.way.drop d).map iv) (zeroS (8 - d)) [iv s.deep] (by rw [zeroS_eq]; simp [h8])
 rw [hl, ← e] at h1
 rw [h1]
 simp only [List.cons_append, List.drop_succ_cons, List.drop_zero, ← List.append_assoc]
 rw [List.take_append_of_le_length (by rw [zeroS_eq]; simp; omega), zeroS_eq, ← List.map_append, List.take_of_length_le (by simp; omega)]
theorem replicate_iff (l : List Int) : l = List.replicate l.length 0 ↔ (l.all fun w => decide (w = 0)) = true := by
 rw [List.eq_replicate_iff]
 simp
theorem cut_iff (ok : s.ok) (d : Nat) (hd : d ≤ 8) : decide (s.way.take d ++ List.replicate (8 - d) 0 = s.way) = (s.way.drop d).all (fun w => decide (w = 0)) := by
 have h8 : s.way.length = 8 := ok
 rw [Bool.eq_iff_iff, decide_eq_true_eq, ← replicate_iff]
 have hl : (s.way.drop d).length = 8 - d := by simp [h8]
 rw [hl]
 constructor
 ·intro h
  have h1 : s.way.take d ++ List.replicate (8 - d) 0 = s.way.take d ++ s.way.drop d := by rw [h, List.take_append_drop]
  exact (List.append_cancel_left h1).symm
 ·intro h
  rw [← h, List.take_append_drop]
theorem may_loop (K : Heap) (call : CallF) (Q : Option (V × Heap) → Prop) (k : List Item) (way : List Int) (h8 : way.length = 8) (v1 : V)
  (hyes : ∀ φ', Fr.get φ' 1 = v1.strip → (way.all fun w => decide (0 ≤ w)) = true → Q (M call k φ' K)) (hno : ∀ φ', (way.all fun w => decide (0 ≤ w)) = false → Fr.get φ' 2 = .bool false → Q (retK k φ' K)) :
  ∀ (j i : Nat) (φ : Fr), i + j = 8 → (way.all fun w => decide (0 ≤ w)) = ((way.drop i).all fun w => decide (0 ≤ w)) → Fr.get φ 1 = v1.strip → Fr.get φ 15 = .agg (way.map iv) → Fr.get φ 16 = iv i → Q (M call (.code l_site_may_0 :: .blk 0 :: k) φ K) := by
 intro j
 induction j with
 | zero =>
  intro i φ hi hX h1 h15 h16
  obtain rfl : i = 8 := by omega
  rw [List.drop_eq_nil_of_le (by omega)] at hX
  rw [l_site_may_0, M_loop]
  simp [b_site_may_0, h1, h15, h16]
  exact hyes _ (by simp [h1]) (by rw [hX]; rfl)
 | succ j ih =>
  intro i φ hi hX h1 h15 h16
  have hlt : i < way.length := by omega
  rw [List.drop_eq_getElem_cons hlt] at hX
  have e1 : (i : Int) < 8 := by omega
  have e2 : IntKind.i64.wrap ((i : Int) + 1) = ((i + 1 : Nat) : Int) := by rw [w64] <;> omega
  have e3 : way[i]? = some way[i] := List.getElem?_eq_getElem hlt
  rw [l_site_may_0, M_loop, ← l_site_may_0]
  by_cases a1 : way[i] < 0
  ·have a1' : ¬ 0 ≤ way[i] := by omega
   simp [b_site_may_0, h1, h15, h16, e1, e2, e3, a1]
   exact hno _ (by rw [hX, List.all_cons, decide_eq_false a1', Bool.false_and]) (by simp)
  ·have a1' : 0 ≤ way[i] := by omega
   simp [b_site_may_0, h1, h15, h16, e1, e2, e3, a1]
   exact ih (i + 1) _ (by omega) (by rw [hX, List.all_cons, decide_eq_true a1', Bool.true_and]) (by simp [h1]) (by simp [h15]) (by simp)
theorem eq8 (xs ys : List Int) (hx : xs.length = 8) (hy : ys.length = 8) : eqCells [.int .i64, .int .i64, .int .i64, .int .i64, .int .i64, .int .i64, .int .i64, .int .i64] (xs.map iv) (ys.map iv) = some (decide (xs = ys)) := eqCells_ints 8 .i64 xs ys hx hy
theorem setMany_len : ∀ (vs cs : List V) (off : Nat), (setMany cs off vs).length = cs.length
 | [], cs, off => rfl
 | v :: vs, cs, off => by simp [setMany, setMany_len vs]
theorem setMany_over (a cs : List V) : ∀ (vs : List V) , vs.length = cs.length → setMany (a ++ cs) a.length vs = a ++ vs := by
 intro vs h
 have := setMany_mid a cs vs [] h
 simpa using this
theorem setMany_self (cs vs : List V) (h : vs.length = cs.length) : setMany cs 0 vs = vs := by
 have := setMany_over [] cs vs h
 simpa using this
theorem h11 (s : Si) (ok : s.ok) : ∀ a b c d e f g h i j k : V, setMany [a, b, c, d, e, f, g, h, i, j, k] 0 s.cells = s.cells := fun a b c d e f g h i j k => setMany_self _ _ (by rw [Si.len ok]; rfl)
theorem eq11' (xs ys : List Int) (hx : xs.length = 11) (hy : ys.length = 11) : eqCells [.int .i64, .int .i64, .int .i64, .int .i64, .int .i64, .int .i64, .int .i64, .int .i64, .int .i64, .int .i64, .int .i64] (xs.map iv) (ys.map iv) = some (decide (xs = ys)) := eqCells_ints 11 .i64 xs ys hx hy
def Si.ints (s : Si) : List Int := s.kind :: s.part :: (s.way ++ [s.deep])
theorem Si.cells_ints (s : Si) : s.cells = s.ints.map iv := by simp [Si.cells, Si.ints]
theorem Si.ints_inj {s t : Si} (hs : s.ok) (ht : t.ok) (h : s.ints = t.ints) : s = t := by
 unfold Si.ints at h
 simp only [List.cons.injEq] at h
 obtain ⟨h1, h2, h3⟩ := h
 have hl : s.way.length = t.way.length := by rw [show s.way.length = 8 from hs, show t.way.length = 8 from ht]
 have := List.append_inj h3 hl
 cases s; cases t
 simp at this h1 h2
 simp [h1, h2, this]
theorem Si.eqc {s t : Si} (hs : s.ok) (ht : t.ok) : eqCells [.int .i64, .int .i64, .int .i64, .int .i64, .int .i64, .int .i64, .int .i64, .int .i64, .int .i64, .int .i64, .int .i64] s.cells t.cells = some (decide (s = t)) := by
 rw [Si.cells_ints, Si.cells_ints, eq11' _ _ (by simp [Si.ints, show s.way.length = 8 from hs]) (by simp [Si.ints, show t.way.length = 8 from ht])]
 congr 1
 rw [Bool.eq_iff_iff, decide_eq_true_eq, decide_eq_true_eq]
 exact ⟨Si.ints_inj hs ht, fun h => by rw [h]⟩
theorem Si.ways_strip (ok : s.ok) : List.map V.strip ((s.cells.drop 2).take 8) = s.way.map iv := by rw [Si.ways ok, map_iv_strip]
theorem Si.cut_strip (ok : s.ok) (d : Nat) (hd : d ≤ 8) : List.take 8 (List.drop 2 (List.map V.strip (setMany s.cells (2 + d) (zeroS (8 - d))))) = (s.way.take d ++ List.replicate (8 - d) 0).map iv := by
 rw [← List.map_drop, ← List.map_take, Si.cut ok d hd, map_iv_strip]
theorem may_eq (s : Si) (ok : s.ok) (H : Heap) : eval tbl noExt n_site_may [.agg s.cells] H = some (.bool s.may, H) := by
 have h8 : s.way.length = 8 := ok
 have hc := Si.c10 ok
 have hl := Si.len ok
 have hst := Si.strip (s := s)
 have hone := Si.one (s := s)
 have htk := Si.take ok
 have hw := Si.ways_strip ok
 have hself := h11 s ok
 have hcg : ∀ h : 10 < s.cells.length, s.cells[10] = iv s.deep := fun h => by
  have := hc
  rw [List.getElem?_eq_getElem h] at this
  exact Option.some.inj this
 rw [eval_M rfl rfl t_site_may rfl]
 unfold Si.may
 by_cases a1 : s.deep < 1
 ·have a1' : ¬ 1 ≤ s.deep := by omega
  simp [c_site_may, hc, a1, a1']
 ·have a1' : 1 ≤ s.deep := by omega
  by_cases a2 : 8 < s.deep
  ·have a2' : ¬ s.deep ≤ 8 := by omega
   simp [c_site_may, hc, a1, a2, a2']
  ·have a2' : s.deep ≤ 8 := by omega
   simp only [a1', a2', decide_true, Bool.true_and]
   obtain ⟨A, hA⟩ : ∃ A, A = ((s.way.all fun w => decide (0 ≤ w)) && ((s.way.drop s.deep.toNat).all fun w => decide (w = 0))) := ⟨_, rfl⟩
   rw [← hA]
   simp [c_site_may, hc, a1, a2, hw, hl, hcg]
   refine may_loop _ _ (fun r => r = some (V.bool A, H)) _ s.way h8 (.ptr H.length 0) ?_ ?_ 8 0 _ (by omega) rfl ?_ ?_ ?_
   ·intro φ' h1 hX
    rw [hA]
    obtain ⟨d, hd⟩ : ∃ d : Nat, s.deep = d := ⟨s.deep.toNat, by omega⟩
    have hd8 : d ≤ 8 := by omega
    have hdi : (d : Int) ≤ 8 := by omega
    have hdt : s.deep.toNat = d := by omega
    rw [hX, hdt, Bool.true_and]
    have hci := cut_iff (s := s) ok d hd8
    rw [← hci]
    have he := eq8 (s.way.take d ++ List.replicate (8 - d) 0) s.way (by simp [h8]; omega) h8
    have hun := fun n => Si.under (s := s) n
    by_cases a3 : d = 8
    ·subst a3
     have ht : s.way.take 8 = s.way := List.take_of_length_le (by omega)
     have he2 := eq8 s.way s.way h8 h8
     simp [r_site_may_0, h1, hc, hcg, hd, hl, hst, hone, htk, hw, hun, hself, ht, he2]
    ·have a3' : ¬ (8 = d) := by omega
     have e1 : 2 + d + (8 - d) ≤ 11 := by omega
     have hcs := Si.cut_strip (s := s) ok d hd8
     unfold zeroS at hcs
     obtain ⟨cw, hcw⟩ : ∃ cw, cw = s.way.take d ++ List.replicate (8 - d) 0 := ⟨_, rfl⟩
     rw [← hcw] at he hcs ⊢
     have hlen : (setMany s.cells (2 + d) (List.replicate (8 - d) (V.int .i64 0))).length = 11 := by rw [setMany_len, hl]
     simp [r_site_may_0, h1, hc, hcg, hd, hdi, hl, hst, hone, htk, hw, hun, hself, a3', e1, hcs, he, hlen]
   ·intro φ' hX h2
    rw [hA, hX, Bool.false_and]
    simp [h2]
   ·simp
   ·simp
   ·simp
def val (n : Int) : List UInt8 → Option Int
 | [] => some n
 | c :: cs => if c.toNat < 48 ∨ 57 < c.toNat then none else val (IntKind.i64.wrap (IntKind.i64.wrap (n * 10) + (c.toNat - 48))) cs
@[simp] theorem bytesRows_length (s : List UInt8) : (bytesRows s).length = s.length := by simp [bytesRows]
@[simp] theorem bytesRows_get (s : List UInt8) (i : Nat) : (bytesRows s)[i]? = (s[i]?).map fun b => [V.int .u8 b.toNat] := by simp [bytesRows]
@[simp] theorem bytesRows_getElem (s : List UInt8) (i : Nat) (h : i < (bytesRows s).length) : (bytesRows s)[i] = [V.int .u8 (s[i]'(by simpa using h)).toNat] := by simp [bytesRows]
theorem byte_lt (c : UInt8) : c.toNat < 256 := UInt8.toNat_lt c
def readR (s : List UInt8) : Int × Bool :=
 if s = [] ∨ 13 < s.length ∨ s[0]? = some 48 ∧ s ≠ [48] then (0, false)
 else match val 0 s with
  | none => (0, false)
  | some v => if 1000000000000 < v then (0, false) else (v, true)
def dig (u : Nat) : UInt8 := UInt8.ofNat (48 + u % 10)
def digs : Nat → Nat → List UInt8 → List UInt8
 | 0, _, acc => acc
 | k + 1, u, acc => if u / 10 = 0 then dig u :: acc else digs k (u / 10) (dig u :: acc)
def byteVs (txt : List UInt8) : List V := txt.map fun c => .int .u8 c.toNat
def cells20 (txt : List UInt8) : List V := List.replicate (20 - txt.length) (.int .u8 0) ++ byteVs txt
theorem cells20_length {txt : List UInt8} (h : txt.length ≤ 20) : (cells20 txt).length = 20 := by simp [cells20, byteVs]; omega
theorem cells20_set {txt : List UInt8} (h : txt.length < 20) (c : UInt8) : (cells20 txt).set (19 - txt.length) (.int .u8 c.toNat) = cells20 (c :: txt) := by
 unfold cells20
 obtain ⟨m, hm⟩ : ∃ m, 20 - txt.length = m + 1 := ⟨19 - txt.length, by omega⟩
 have h1 : 19 - txt.length = m := by omega
 have h2 : 20 - (c :: txt).length = m := by simp; omega
 rw [hm, h1, h2, List.replicate_succ', List.append_assoc, List.set_append_right _ _ (by simp)]
 simp [byteVs]
theorem digs_length (k u : Nat) (acc : List UInt8) : (digs k u acc).length ≤ k + acc.length := by
 induction k generalizing u acc with
 | zero => simp [digs]
 | succ k ih =>
  unfold digs
  split
  ·simp; omega
  ·have := ih (u / 10) (dig u :: acc)
   simp at this; omega
theorem digit_u8 (u : Nat) : IntKind.u8.wrap (IntKind.u64.wrap (48 + (u : Int) % 10)) = (dig u).toNat := by
 unfold dig
 rw [IntKind.wrap_u64, IntKind.wrap_u8]
 have : (UInt8.ofNat (48 + u % 10)).toNat = 48 + u % 10 := by
  rw [UInt8.toNat_ofNat']; omega
 rw [this]; omega
set_option maxHeartbeats 400000
variable (H : Heap) (call : CallF) (R : Option (V × Heap))
theorem digits_loop (n : Int) (k : List Item) (X : List UInt8) (hk : ∀ φ', Fr.get φ' 0 = .int .i64 n → Fr.get φ' 3 = .ptr H.length 0 → Fr.get φ' 4 = .int .i64 (20 - X.length : Nat) → M call k φ' (H ++ [some (cells20 X)]) = R) :
  ∀ (j u : Nat) (txt : List UInt8) (φ : Fr), u < 10 ^ (j + 1) → u < 18446744073709551616 → txt.length + j + 1 ≤ 20 → digs (j + 1) u txt = X → Fr.get φ 0 = .int .i64 n → Fr.get φ 3 = .ptr H.length 0 → Fr.get φ 4 = .int .i64 (20 - txt.length : Nat) → Fr.get φ 5 = .int .u64 u →
  M call (.code l_num_Digits_0 :: .blk 0 :: k) φ (H ++ [some (cells20 txt)]) = R := by
 intro j
 induction j with
 | zero =>
  intro u txt φ hu hu2 ht hX h0 h3 h4 h5
  have e1 : (u : Int).tmod 10 = (u : Int) % 10 := by rw [Int.tmod_eq_emod_of_nonneg (by omega)]
  have e0 : IntKind.u64.wrap 0 = 0 := by rw [IntKind.wrap_u64]; rfl
  have e2 : IntKind.u64.wrap ((u : Int) / 10) = (u : Int) / 10 := by rw [IntKind.wrap_u64]; omega
  have e3 : IntKind.i64.wrap (((20 - txt.length : Nat) : Int) - 1) = (19 - txt.length : Nat) := by rw [w64] <;> omega
  have e4 : ((19 - txt.length : Nat) : Int) < 20 := by omega
  have e5 : (u : Int) / 10 = 0 := by omega
  have hl := cells20_length (txt := txt) (by omega)
  have e6 : 19 - txt.length + 1 ≤ 20 := by omega
  have e7 := cells20_set (txt := txt) (by omega)
  unfold digs at hX
  rw [if_pos (by omega)] at hX
  rw [l_num_Digits_0, M_loop, ← l_num_Digits_0]
  simp [b_num_Digits_0, h0, h3, h4, h5, e0, e1, e2, e3, e4, e5, e6, e7, hl, digit_u8, V.cells, V.one, setMany, hX]
  refine hk _ ?_ ?_ ?_ <;> simp [← hX] <;> omega
 | succ j ih =>
  intro u txt φ hu hu2 ht hX h0 h3 h4 h5
  have e1 : (u : Int).tmod 10 = (u : Int) % 10 := by rw [Int.tmod_eq_emod_of_nonneg (by omega)]
  have e0 : IntKind.u64.wrap 0 = 0 := by rw [IntKind.wrap_u64]; rfl
  have e2 : IntKind.u64.wrap ((u : Int) / 10) = (u : Int) / 10 := by rw [IntKind.wrap_u64]; omega
  have e3 : IntKind.i64.wrap (((20 - txt.length : Nat) : Int) - 1) = (19 - txt.length : Nat) := by rw [w64] <;> omega
  have e4 : ((19 - txt.length : Nat) : Int) < 20 := by omega
  have hl := cells20_length (txt := txt) (by omega)
  have e6 : 19 - txt.length + 1 ≤ 20 := by omega
  have e7 := cells20_set (txt := txt) (by omega)
  unfold digs at hX
  rw [l_num_Digits_0, M_loop, ← l_num_Digits_0]
  by_cases hq : u / 10 = 0
  ·have e5 : (u : Int) / 10 = 0 := by omega
   rw [if_pos hq] at hX
   simp [b_num_Digits_0, h0, h3, h4, h5, e0, e1, e2, e3, e4, e5, e6, e7, hl, digit_u8, V.cells, V.one, setMany, hX]
   refine hk _ ?_ ?_ ?_ <;> simp [← hX] <;> omega
  ·have e5 : ¬ (u : Int) / 10 = 0 := by omega
   rw [if_neg hq] at hX
   simp [b_num_Digits_0, h0, h3, h4, h5, e0, e1, e2, e3, e4, e5, e6, e7, hl, digit_u8, V.cells, V.one, setMany]
   refine ih (u / 10) (dig u :: txt) _ ?_ ?_ ?_ hX ?_ ?_ ?_ ?_ <;> first | omega | (simp; done) | (simp; omega)
theorem chunk_bytes (pre : List V) (X : List UInt8) : rowsBytes (chunk 1 (pre ++ byteVs X) pre.length X.length) = some X := by
 induction X generalizing pre with
 | nil => rfl
 | cons c X ih =>
  have h1 := ih (pre ++ [.int .u8 c.toNat])
  have h2 : pre ++ byteVs (c :: X) = (pre ++ [V.int .u8 c.toNat]) ++ byteVs X := by simp [byteVs]
  have hc := byte_lt c
  rw [List.length_cons, chunk, h2]
  have h3 : (((pre ++ [V.int .u8 c.toNat]) ++ byteVs X).drop pre.length).take 1 = [V.int .u8 c.toNat] := by simp
  rw [h3]
  simp only [List.length_append, List.length_singleton] at h1
  unfold rowsBytes
  rw [if_pos (by omega), h1]
  simp
theorem cells20_bytes (X : List UInt8) : rowsBytes (chunk 1 ((cells20 X).map V.strip) (20 - X.length) X.length) = some X := by
 have h : (cells20 X).map V.strip = List.replicate (20 - X.length) (V.int .u8 0) ++ byteVs X := by
  simp [cells20, byteVs, V.strip, Function.comp_def]
 have := chunk_bytes (List.replicate (20 - X.length) (V.int .u8 0)) X
 rw [List.length_replicate] at this
 rw [h, this]
theorem digs_pos (k u : Nat) (acc : List UInt8) : acc.length < (digs (k + 1) u acc).length := by
 induction k generalizing u acc with
 | zero => unfold digs; split <;> simp [digs]
 | succ k ih =>
  unfold digs
  split
  ·simp
  ·have := ih (u / 10) (dig u :: acc)
   simp at this; omega
def text (n : Int) : List UInt8 := if n < 0 then 45 :: digs 19 (-n).toNat [] else digs 19 n.toNat []
theorem digits_eq (n : Int) (h1 : -9223372036854775808 ≤ n) (h2 : n ≤ 9223372036854775807) : eval tbl noExt n_num_Digits [.int .i64 n] H = some (.str (text n), H) := by
 rw [eval_M rfl rfl t_num_Digits rfl]
 unfold text
 by_cases hn : n < 0
 ·obtain ⟨X, hX⟩ : ∃ X, X = digs 19 (-n).toNat [] := ⟨_, rfl⟩
  have hl := digs_length 19 (-n).toNat []
  have hp := digs_pos 18 (-n).toNat []
  rw [← hX] at hl hp ⊢
  have e1 : IntKind.u64.wrap (-IntKind.u64.wrap n) = ((-n).toNat : Int) := by rw [IntKind.wrap_u64, IntKind.wrap_u64]; omega
  simp at hl hp
  simp [c_num_Digits, hn, e1]
  refine digits_loop H _ _ n _ X ?_ 18 (-n).toNat [] _ (by omega) (by omega) (by simp) hX.symm ?_ ?_ ?_ ?_
  ·intro φ' h0 h3 h4
   have e3 : IntKind.i64.wrap (((20 - X.length : Nat) : Int) - 1) = (19 - X.length : Nat) := by rw [w64] <;> omega
   have e4 : ((19 - X.length : Nat) : Int) < 20 := by omega
   have e5 : ((19 - X.length : Nat) : Int) ≤ 20 := by omega
   have e6 : 19 - X.length + 1 ≤ 20 := by omega
   have e7 := cells20_set (txt := X) (by omega) 45
   have e8 : ¬ 20 = 19 - X.length := by omega
   have e9 := cells20_length (txt := 45 :: X) (by simp; omega)
   have e10 : 19 - X.length + (20 - (19 - X.length)) ≤ 20 := by omega
   have e11 := cells20_bytes (45 :: X)
   have e12 : 20 - (45 :: X).length = 19 - X.length := by rw [List.length_cons]; omega
   have e13 : (45 :: X).length = 20 - (19 - X.length) := by rw [List.length_cons]; omega
   rw [e12, e13] at e11
   have hl' := cells20_length (txt := X) (by omega)
   have e7' : (cells20 X).set (19 - X.length) (V.int IntKind.u8 45) = cells20 (45 :: X) := e7
   simp [r_num_Digits_0, h0, h3, h4, hn, e3, e4, e5, e6, e7', e8, e9, e10, hl', V.cells, V.one, setMany, rowsOf, e11]
  ·simp
  ·simp
  ·simp
  ·simp
 ·obtain ⟨X, hX⟩ : ∃ X, X = digs 19 n.toNat [] := ⟨_, rfl⟩
  have hl := digs_length 19 n.toNat []
  have hp := digs_pos 18 n.toNat []
  rw [← hX] at hl hp ⊢
  have e1 : IntKind.u64.wrap n = (n.toNat : Int) := by rw [IntKind.wrap_u64]; omega
  simp at hl hp
  simp [c_num_Digits, hn, e1]
  refine digits_loop H _ _ n _ X ?_ 18 n.toNat [] _ (by omega) (by omega) (by simp) hX.symm ?_ ?_ ?_ ?_
  ·intro φ' h0 h3 h4
   have e5 : ((20 - X.length : Nat) : Int) ≤ 20 := by omega
   have e8 : ¬ 20 = 20 - X.length := by omega
   have e9 := cells20_length (txt := X) (by omega)
   have e10 : 20 - X.length + X.length ≤ 20 := by omega
   have e11 := cells20_bytes X
   have e13 : X.length = 20 - (20 - X.length) := by omega
   have e14 : 20 - (20 - X.length) = X.length := by omega
   simp [r_num_Digits_0, h0, h3, h4, hn, e5, e8, e9, e10, rowsOf, e14, e11]
  ·simp
  ·simp
  ·simp
  ·simp
def stepN (n : Nat) (c : UInt8) : Nat := n * 10 + (c.toNat - 48)
def valN (n : Nat) (s : List UInt8) : Nat := s.foldl stepN n
theorem valN_nil (n : Nat) : valN n [] = n := rfl
theorem valN_cons (n : Nat) (c : UInt8) (cs : List UInt8) : valN n (c :: cs) = valN (n * 10 + (c.toNat - 48)) cs := by
 have : n * 10 + (c.toNat - 48) = stepN n c := by rw [stepN]
 rw [this]; rfl
def isDigP (c : UInt8) : Prop := 48 ≤ c.toNat ∧ c.toNat ≤ 57
def Good (s : List UInt8) : Prop := s ≠ [] ∧ (∀ c ∈ s, isDigP c) ∧ (s.head? = some 48 → s = [48])
theorem valN_append (s : List UInt8) (c : UInt8) (n : Nat) : valN n (s ++ [c]) = valN n s * 10 + (c.toNat - 48) := by
 have : ∀ m, m * 10 + (c.toNat - 48) = stepN m c := fun m => by rw [stepN]
 rw [this]
 simp [valN]
theorem valN_ge (n : Nat) (s : List UInt8) : n * 10 ^ s.length ≤ valN n s := by
 induction s generalizing n with
 | nil => simp [valN_cons, valN_nil]
 | cons x s ih =>
  have := ih (n * 10 + (x.toNat - 48))
  rw [valN_cons]
  refine Nat.le_trans ?_ this
  rw [List.length_cons, Nat.pow_succ, Nat.mul_comm (10 ^ s.length) 10, ← Nat.mul_assoc]
  exact Nat.mul_le_mul_right _ (Nat.le_add_right _ _)
theorem val_some (n : Nat) (s : List UInt8) (h : ∀ c ∈ s, isDigP c) (a : Nat) (hn : n < 10 ^ a) (ha : a + s.length ≤ 18) : val n s = some (valN n s : Int) := by
 induction s generalizing n a with
 | nil => rfl
 | cons c s ih =>
  have hc := h c (by simp)
  unfold isDigP at hc
  rw [valN_cons]
  unfold val
  rw [if_neg (by omega)]
  simp only [List.length_cons] at ha
  have h18 : 10 ^ (a + 1) ≤ 10 ^ 18 := Nat.pow_le_pow_right (by omega) (by omega)
  have hp : 10 ^ (a + 1) = 10 * 10 ^ a := by rw [Nat.pow_succ, Nat.mul_comm]
  have e : (10 : Nat) ^ 18 = 1000000000000000000 := by decide
  rw [w64 (n := (n : Int) * 10) (by omega) (by omega), w64 (n := (n : Int) * 10 + ((c.toNat : Int) - 48)) (by omega) (by omega)]
  have e2 : (n : Int) * 10 + ((c.toNat : Int) - 48) = ((n * 10 + (c.toNat - 48) : Nat) : Int) := by omega
  rw [e2]
  exact ih (n * 10 + (c.toNat - 48)) (fun c hc => h c (by simp [hc])) (a + 1) (by omega) (by omega)
theorem val_digits (n : Int) (s : List UInt8) {v : Int} (h : val n s = some v) : ∀ c ∈ s, isDigP c := by
 induction s generalizing n with
 | nil => intro c hc; cases hc
 | cons x s ih =>
  unfold val at h
  split at h
  ·cases h
  ·intro c hc
   rcases List.mem_cons.1 hc with rfl | hc
   ·unfold isDigP; omega
   ·exact ih _ h c hc
theorem dig_toNat (u : Nat) : (dig u).toNat = 48 + u % 10 := by unfold dig; rw [UInt8.toNat_ofNat']; omega
theorem dig_of (v : Nat) (c : UInt8) (hc : isDigP c) : dig (v * 10 + (c.toNat - 48)) = c := by
 unfold isDigP at hc
 apply UInt8.toNat_inj.1
 rw [dig_toNat]; omega
theorem good_pos {s : List UInt8} (h : Good s) (hl : 1 < s.length) : 0 < valN 0 s := by
 obtain ⟨h1, h2, h3⟩ := h
 cases s with
 | nil => exact (h1 rfl).elim
 | cons c s =>
  have hc := h2 c (by simp)
  unfold isDigP at hc
  have hne : c.toNat ≠ 48 := by
   intro he
   have : c = 48 := UInt8.toNat_inj.1 he
   have := h3 (by simp [this])
   simp at this
   simp [this.2] at hl
  rw [valN_cons]
  have := valN_ge (0 * 10 + (c.toNat - 48)) s
  have hp : 0 < 10 ^ s.length := Nat.pow_pos (by omega)
  have : 1 * 10 ^ s.length ≤ (0 * 10 + (c.toNat - 48)) * 10 ^ s.length := Nat.mul_le_mul_right _ (by omega)
  omega
theorem good_ge {s : List UInt8} (h : Good s) (hl : 1 < s.length) : 10 ^ (s.length - 1) ≤ valN 0 s := by
 obtain ⟨h1, h2, h3⟩ := h
 cases s with
 | nil => exact (h1 rfl).elim
 | cons c s =>
  have hc := h2 c (by simp)
  unfold isDigP at hc
  have hne : c.toNat ≠ 48 := by
   intro he
   have : c = 48 := UInt8.toNat_inj.1 he
   have := h3 (by simp [this])
   simp at this
   simp [this.2] at hl
  rw [valN_cons]
  have := valN_ge (0 * 10 + (c.toNat - 48)) s
  have : 1 * 10 ^ s.length ≤ (0 * 10 + (c.toNat - 48)) * 10 ^ s.length := Nat.mul_le_mul_right _ (by omega)
  simp only [List.length_cons, Nat.add_sub_cancel]
  omega
theorem good_init {s : List UInt8} {c : UInt8} (h : Good (s ++ [c])) (hs : s ≠ []) : Good s := by
 obtain ⟨h1, h2, h3⟩ := h
 refine ⟨hs, fun x hx => h2 x (by simp [hx]), fun he => ?_⟩
 cases s with
 | nil => exact (hs rfl).elim
 | cons x s =>
  have := h3 (by simpa using he)
  simp at this
theorem digs_good (k : Nat) : ∀ (s acc : List UInt8), Good s → s.length ≤ k → digs k (valN 0 s) acc = s ++ acc := by
 induction k with
 | zero =>
  intro s acc h hl
  have : s = [] := List.eq_nil_of_length_eq_zero (by omega)
  exact (h.1 this).elim
 | succ k ih =>
  intro s acc h hl
  obtain ⟨t, c, rfl⟩ : ∃ t c, s = t ++ [c] := ⟨s.dropLast, s.getLast h.1, (List.dropLast_concat_getLast h.1).symm⟩
  have hc := h.2.1 c (by simp)
  rw [valN_append t c 0]
  unfold digs
  rw [dig_of _ _ hc]
  unfold isDigP at hc
  by_cases ht : t = []
  ·subst ht
   rw [if_pos (by simp [valN_cons, valN_nil]; omega)]
   simp
  ·have hg := good_init h ht
   have hq : (valN 0 t * 10 + (c.toNat - 48)) / 10 = valN 0 t := by omega
   have hp : 0 < valN 0 t := by
    by_cases h1 : 1 < t.length
    ·exact good_pos hg h1
    ·cases t with
     | nil => exact (ht rfl).elim
     | cons x t =>
      have : t = [] := by
       apply List.eq_nil_of_length_eq_zero
       simp only [List.length_cons] at h1; omega
      subst this
      have hx := h.2.1 x (by simp)
      unfold isDigP at hx
      have hne : x.toNat ≠ 48 := by
       intro he
       have hx' : x = 48 := UInt8.toNat_inj.1 he
       have := h.2.2 (by simp [hx'])
       simp at this
      simp [valN_cons, valN_nil]; omega
   rw [hq, if_neg (by omega), ih t (c :: acc) hg (by simp at hl; omega)]
   simp
theorem good_of (k : Nat) : ∀ u, u < 10 ^ (k + 1) → ∃ s, Good s ∧ s.length ≤ k + 1 ∧ valN 0 s = u ∧ (0 < u → s.head? ≠ some 48) := by
 induction k with
 | zero =>
  intro u hu
  have hd := dig_toNat u
  refine ⟨[dig u], ⟨by simp, fun c hc => ?_, fun h => by simpa using h⟩, by simp, by simp [valN_cons, valN_nil]; omega, fun hp he => ?_⟩
  ·simp at hc; subst hc; unfold isDigP; omega
  ·simp at he
   rw [he] at hd
   have : (48 : UInt8).toNat = 48 := rfl
   omega
 | succ k ih =>
  intro u hu
  by_cases h10 : u < 10
  ·obtain ⟨s, h1, h2, h3⟩ := ih u (Nat.lt_of_lt_of_le h10 (by
    have : 10 ^ 1 ≤ 10 ^ (k + 1) := Nat.pow_le_pow_right (by omega) (by omega)
    simpa using this))
   exact ⟨s, h1, by omega, h3⟩
  ·have hp : 10 ^ (k + 1 + 1) = 10 * 10 ^ (k + 1) := by rw [Nat.pow_succ, Nat.mul_comm]
   obtain ⟨s, h1, h2, h3, h4⟩ := ih (u / 10) (by omega)
   have hd := dig_toNat u
   have hh := h4 (by omega)
   have hhd : (s ++ [dig u]).head? = s.head? := by
    cases s with
    | nil => exact (h1.1 rfl).elim
    | cons x s => rfl
   refine ⟨s ++ [dig u], ⟨by simp, fun c hc => ?_, fun h => ?_⟩, by simp; omega, by rw [valN_append s (dig u) 0, h3]; omega, fun _ => by rw [hhd]; exact hh⟩
   ·rcases List.mem_append.1 hc with hc | hc
    ·exact h1.2.1 c hc
    ·simp at hc; subst hc; unfold isDigP; omega
   ·rw [hhd] at h; exact (hh h).elim
theorem read_good {s : List UInt8} (h : Good s) : readR s = if 1000000000000 < valN 0 s then (0, false) else ((valN 0 s : Int), true) := by
 unfold readR
 by_cases hl : 13 < s.length
 ·have := good_ge h (by omega)
  have h2 : 10 ^ 13 ≤ 10 ^ (s.length - 1) := Nat.pow_le_pow_right (by omega) (by omega)
  have e : (10 : Nat) ^ 13 = 10000000000000 := by decide
  rw [if_pos (Or.inr (Or.inl hl)), if_pos (by omega)]
 ·rw [if_neg]
  ·have hv := val_some 0 s h.2.1 0 (by simp) (by omega)
   have hv' : val 0 s = some (valN 0 s : Int) := hv
   rw [hv']
   dsimp only
   by_cases hb : 1000000000000 < valN 0 s
   ·rw [if_pos hb, if_pos (by omega)]
   ·rw [if_neg hb, if_neg (by omega)]
  ·rintro (h1 | h1 | ⟨h1, h2⟩)
   ·exact h.1 h1
   ·exact hl h1
   ·exact h2 (h.2.2 (by rw [List.head?_eq_getElem?]; exact h1))
theorem read_text (n : Int) (h1 : -9223372036854775808 ≤ n) (h2 : n ≤ 9223372036854775807) : readR (text n) = if 0 ≤ n ∧ n ≤ 1000000000000 then (n, true) else (0, false) := by
 unfold text
 have e : (10 : Nat) ^ 19 = 10000000000000000000 := by decide
 by_cases hn : n < 0
 ·rw [if_pos hn, if_neg (by omega)]
  unfold readR
  split
  ·rfl
  ·unfold val
   rw [if_pos (by decide)]
 ·rw [if_neg hn]
  obtain ⟨s, hg, hl, hv, _⟩ := good_of 18 n.toNat (by omega)
  rw [← hv, digs_good 19 s [] hg (by omega), List.append_nil, read_good hg]
  by_cases hb : 1000000000000 < valN 0 s
  ·rw [if_pos hb, if_neg (by omega)]
  ·rw [if_neg hb, if_pos (by omega)]
   have : (valN 0 s : Int) = n := by omega
   rw [this]
theorem text_read (s : List UInt8) (h : (readR s).2 = true) : text (readR s).1 = s := by
 have hg : Good s := by
  unfold readR at h
  split at h
  ·cases h
  ·rename_i hc
   split at h
   ·cases h
   ·rename_i v hv
    refine ⟨fun he => hc (Or.inl he), val_digits 0 s hv, fun hh => ?_⟩
    apply Classical.byContradiction
    intro hne
    exact hc (Or.inr (Or.inr ⟨by rw [← List.head?_eq_getElem?]; exact hh, hne⟩))
 rw [read_good hg] at h ⊢
 split at h
 ·cases h
 ·rename_i hb
  rw [if_neg hb]
  have hlen : s.length ≤ 19 := by
   apply Classical.byContradiction
   intro hl
   have := good_ge hg (by omega)
   have h2 : 10 ^ 13 ≤ 10 ^ (s.length - 1) := Nat.pow_le_pow_right (by omega) (by omega)
   have e : (10 : Nat) ^ 13 = 10000000000000 := by decide
   omega
  unfold text
  rw [if_neg (by omega)]
  simp only [Int.toNat_natCast]
  rw [digs_good 19 s [] hg hlen, List.append_nil]
theorem read_small (s : List UInt8) : 0 ≤ (readR s).1 ∧ (readR s).1 ≤ 1000000000000 := by
 unfold readR
 split
 ·simp
 ·split
  ·simp
  ·rename_i v hv
   split
   ·simp
   ·rename_i hc hb
    have hd := val_digits 0 s hv
    have := val_some 0 s hd 0 (by simp) (by omega)
    have hv' : val 0 s = some (valN 0 s : Int) := this
    rw [hv'] at hv
    cases hv
    constructor <;> simp <;> omega
theorem text_length (n : Int) : (text n).length ≤ 20 := by
 unfold text
 split
 ·have := digs_length 19 (-n).toNat []
  simp at this ⊢; omega
 ·have := digs_length 19 n.toNat []
  simp at this ⊢; omega
set_option maxHeartbeats 1000000
variable {s : Si}
def siteWords : List (List UInt8) := [[63], [100, 114, 111, 112, 45, 115, 121, 110, 99], [119, 101, 97, 107, 45, 115, 121, 110, 99], [100, 114, 111, 112, 45, 100, 105, 114], [100, 114, 111, 112, 45, 98, 97, 114, 114, 105, 101, 114], [115, 119, 97, 112], [110, 111, 45, 99, 111, 109, 109, 105, 116], [116, 101, 97, 114], [100, 114, 111, 112, 45, 119, 114, 105, 116, 101]]
def kindsText : List UInt8 := [63, 32, 100, 114, 111, 112, 45, 115, 121, 110, 99, 32, 119, 101, 97, 107, 45, 115, 121, 110, 99, 32, 100, 114, 111, 112, 45, 100, 105, 114, 32, 100, 114, 111, 112, 45, 98, 97, 114, 114, 105, 101, 114, 32, 115, 119, 97, 112, 32, 110, 111, 45, 99, 111, 109, 109, 105, 116, 32, 116, 101, 97, 114, 32, 100, 114, 111, 112, 45, 119, 114, 105, 116, 101]
theorem fields_kinds : Go.Lib.fields kindsText = siteWords := by decide +kernel
theorem ascii_kinds : (kindsText.all fun b => decide (b.toNat < 128)) = true := by decide +kernel
theorem fields_eq : eval tbl noExt n_strings_Fields [.str kindsText] [] = some (.sl 1 (siteWords.map tx), []) := by
 rw [eval_X rfl (show noExt n_strings_Fields = some xFields from rfl)]
 simp only [xFields]
 rw [if_pos ⟨by decide +kernel, ascii_kinds⟩, fields_kinds]
theorem words_eq (H : Heap) : eval tbl noExt n_site_words [] H = some (.sl 1 (siteWords.map tx), H) := by
 have hF := fields_eq
 unfold kindsText at hF
 rw [eval_M rfl rfl t_site_words rfl]
 simp [c_site_words, hF]
def wordOf (k : Int) : List UInt8 := if k < 1 ∨ 8 < k then [63] else (siteWords[k.toNat]?).getD [63]
theorem nine {k : Int} (h0 : 0 ≤ k) (h1 : k < 9) : k = 0 ∨ k = 1 ∨ k = 2 ∨ k = 3 ∨ k = 4 ∨ k = 5 ∨ k = 6 ∨ k = 7 ∨ k = 8 := by omega
theorem Word_eq (k : Int) (H : Heap) : eval tbl noExt n_site_Word [iv k] H = some (.str (wordOf k), H) := by
 have hw := words_eq []
 rw [eval_M rfl rfl t_site_Word rfl]
 by_cases h0 : k < 0
 ·have e : wordOf k = [63] := if_pos (.inl (by omega))
  simp [c_site_Word, hw, h0, e]
  simp [siteWords, tx]
 ·by_cases h1 : 9 ≤ k
  ·have e : wordOf k = [63] := if_pos (.inr (by omega))
   have h2 : ¬ k < 9 := by omega
   simp [c_site_Word, hw, h0, e]
   simp [siteWords, tx, h1]
  ·have h2 : ¬ 9 ≤ k := h1
   rcases nine (k := k) (by omega) (by omega) with rfl | rfl | rfl | rfl | rfl | rfl | rfl | rfl | rfl <;> (simp [c_site_Word, hw]; simp [siteWords, tx, wordOf])
theorem jn_cons2 (x y : List UInt8) (r : List (List UInt8)) (p : List UInt8) : Go.Lib.join (x :: y :: r) p = x ++ (p ++ Go.Lib.join (y :: r) p) := by
 rw [Go.Lib.join_cons, Go.Lib.join_cons]
 simp [Go.Lib.joinTail]
theorem jn_snoc (l : List (List UInt8)) (x p : List UInt8) (h : l ≠ []) : Go.Lib.join (l ++ [x]) p = Go.Lib.join l p ++ (p ++ x) := by
 cases l with
 | nil => exact absurd rfl h
 | cons y r =>
  rw [List.cons_append, Go.Lib.join_cons, Go.Lib.join_cons]
  simp [Go.Lib.joinTail]
theorem jn_len (p : List UInt8) (n : Nat) : ∀ l : List (List UInt8), (∀ w ∈ l, w.length ≤ n) → (Go.Lib.join l p).length ≤ (n + p.length) * l.length
 | [], _ => by simp [Go.Lib.join_nil]
 | [x], h => by rw [Go.Lib.join_one]; have := h x (by simp); simp; omega
 | x :: y :: r, h => by
  have ih := jn_len p n (y :: r) (fun w hw => h w (by simp at hw ⊢; right; exact hw))
  have hx := h x (by simp)
  rw [jn_cons2]
  have e : (n + p.length) * (x :: y :: r).length = (n + p.length) + (n + p.length) * (y :: r).length := by rw [List.length_cons, Nat.mul_add]; omega
  rw [e]
  simp only [List.length_append]
  omega
def Si.parts (s : Si) : List (List UInt8) := wordOf s.kind :: text s.part :: (s.way.take s.deep.toNat).map text
def Si.name (s : Si) : List UInt8 × Bool :=
 if s.kind < 1 ∨ 8 < s.kind ∨ s.part < 0 ∨ 16 < s.part ∨ s.may = false then ([], false)
 else if ((s.way.take s.deep.toNat).any fun w => decide (511 < w)) = true then ([], false)
 else (Go.Lib.join s.parts [32], true)
theorem wordOf_len (k : Int) : (wordOf k).length ≤ 20 := by
 unfold wordOf
 split
 ·simp
 ·rcases nine (k := k) (by omega) (by omega) with rfl | rfl | rfl | rfl | rfl | rfl | rfl | rfl | rfl <;> decide
theorem name_loop (K : Heap) (n : Nat) (hK : K[n]? = some (some s.cells)) (ok : s.ok) (d : Nat) (hd : d ≤ 8) (hpos : ∀ w ∈ s.way.take d, 0 ≤ w) (Q : Option (V × Heap) → Prop) (k : List Item)
  (X : Bool) (L : List (List UInt8)) (hL : L.length ≤ 2)
  (hyes : ∀ φ', X = false → Fr.get φ' 4 = .own 1 ((L ++ (s.way.take d).map text).map tx) → Q (M (eval tbl noExt) k φ' K)) (hno : ∀ φ', X = true → Fr.get φ' 2 = .str [] → Fr.get φ' 3 = .bool false → Q (retK k φ' K)) :
  ∀ (j i : Nat) (φ : Fr), i + j = d → (((s.way.take d).drop i).any fun w => decide (511 < w)) = X → Fr.get φ 4 = .own 1 ((L ++ ((s.way.take d).take i).map text).map tx) → Fr.get φ 42 = .ms n 2 d 8 → Fr.get φ 43 = iv d → Fr.get φ 44 = iv i →
   Q (M (eval tbl noExt) (.code l_site_Name_0 :: .blk 0 :: k) φ K) := by
 have h8 : s.way.length = 8 := ok
 have hln : (s.way.take d).length = d := by simp [h8]; omega
 intro j
 induction j with
 | zero =>
  intro i φ hi hX h4 h42 h43 h44
  have hlt : ¬ (i : Int) < d := by omega
  rw [List.drop_eq_nil_of_le (by omega)] at hX
  rw [List.take_of_length_le (by omega)] at h4
  rw [l_site_Name_0, M_loop]
  simp [b_site_Name_0, h4, h42, h43, h44, hlt]
  exact hyes _ (by rw [← hX]; rfl) (by simp [h4])
 | succ j ih =>
  intro i φ hi hX h4 h42 h43 h44
  have hlt : i < (s.way.take d).length := by omega
  have hlt' : i < s.way.length := by omega
  rw [List.drop_eq_getElem_cons hlt, List.any_cons] at hX
  obtain ⟨u, hu⟩ : ∃ u, u = (s.way.take d)[i] := ⟨_, rfl⟩
  have hu' : s.way[i]? = some u := by
   rw [hu]
   simp [hlt']
  have hp := hpos u (by rw [hu]; exact List.getElem_mem _)
  rw [← hu] at hX
  have hw := Si.cw (s := s) (i := i) (w := u) hu'
  have e1 : (i : Int) < d := by omega
  have e2 : IntKind.i64.wrap ((i : Int) + 1) = ((i + 1 : Nat) : Int) := by rw [w64] <;> omega
  rw [l_site_Name_0, M_loop, ← l_site_Name_0]
  by_cases a1 : 511 < u
  ·simp [b_site_Name_0, h4, h42, h43, h44, hK, hw, e1, e2, a1]
   exact hno _ (by rw [← hX]; simp [a1]) (by simp) (by simp)
  ·have hdg := digits_eq [] u (by omega) (by omega)
   obtain ⟨rows, hrows⟩ : ∃ rows, rows = (L ++ ((s.way.take d).take i).map text).map tx := ⟨_, rfl⟩
   have hlen : rows.length ≤ 20 := by
    rw [hrows]
    simp only [List.length_map, List.length_append, List.length_take]; omega
   rw [← hrows] at h4
   have hc : 2 * (rows.length + 1) * 16 ≤ 281474976710656 := by omega
   have hnext : rows ++ [[V.str (text u)]] = (L ++ ((s.way.take d).take (i + 1)).map text).map tx := by
    rw [List.take_add_one, List.getElem?_eq_getElem hlt, ← hu, hrows]
    simp only [Option.toList_some, List.map_append, List.map_cons, List.map_nil, List.append_assoc, tx]
   clear hrows
   simp [b_site_Name_0, h4, h42, h43, h44, hK, hw, e1, e2, a1, hdg, hc]
   exact ih (i + 1) _ (by omega) (by rw [← hX]; simp [a1]) (by rw [← hnext]; simp) (by simp [h42]) (by simp [h43]) (by simp)
theorem Si.range (h : s.may = true) : 1 ≤ s.deep ∧ s.deep ≤ 8 ∧ ∀ w ∈ s.way.take s.deep.toNat, 0 ≤ w := by
 unfold Si.may at h
 simp only [Bool.and_eq_true, decide_eq_true_eq, List.all_eq_true] at h
 exact ⟨h.1, h.2.1, fun w hw => h.2.2.1 w (List.mem_of_mem_take hw)⟩
theorem sjoin_eq (l : List (List UInt8)) (hl : l.length ≤ 10) (hw : ∀ w ∈ l, w.length ≤ 100) (H : Heap) : eval tbl noExt n_strings_Join [.sl 1 (l.map tx), .str [32]] H = some (.str (Go.Lib.join l [32]), H) := by
 have hlen := jn_len [32] 100 l hw
 rw [eval_X rfl (show noExt n_strings_Join = some xJoin from rfl)]
 simp only [xJoin, textsOf_map]
 rw [if_pos ⟨by simp only [List.length_singleton] at hlen; have : (100 + 1) * l.length ≤ 101 * 10 := Nat.mul_le_mul_left _ hl; omega, by omega⟩]
theorem parts_len (h : s.may = true) : s.parts.length ≤ 10 ∧ ∀ w ∈ s.parts, w.length ≤ 100 := by
 obtain ⟨h1, h2, _⟩ := Si.range h
 refine ⟨by simp [Si.parts]; omega, fun w hw => ?_⟩
 simp only [Si.parts, List.mem_cons, List.mem_map] at hw
 rcases hw with rfl | rfl | ⟨n, _, rfl⟩
 ·have := wordOf_len s.kind; omega
 ·have := text_length s.part; omega
 ·have := text_length n; omega
theorem Name_eq (s : Si) (ok : s.ok) (H : Heap) : eval tbl noExt n_site_Name [.agg s.cells] H = some (.tup [.str s.name.1, .bool s.name.2], H) := by
 have hc0 := Si.c0 (s := s)
 have hc1 := Si.c1 (s := s)
 have hc := Si.c10 ok
 have hl := Si.len ok
 have hst := Si.strip (s := s)
 have htk := Si.take ok
 have hun := fun n => Si.under (s := s) n
 have hm := fun K => may_eq s ok K
 have hw := fun K => words_eq K
 have hW := fun K => Word_eq s.kind K
 have e9 : siteWords.length = 9 := rfl
 have g0 : ∀ h : 0 < s.cells.length, s.cells[0] = iv s.kind := fun h => rfl
 have g1 : ∀ h : 1 < s.cells.length, s.cells[1] = iv s.part := fun h => rfl
 have g10 : ∀ h : 10 < s.cells.length, s.cells[10] = iv s.deep := fun h => by
  have := hc
  rw [List.getElem?_eq_getElem h] at this
  exact Option.some.inj this
 rw [eval_M rfl rfl t_site_Name rfl]
 by_cases a1 : s.kind < 1
 ·have e : s.name = ([], false) := if_pos (.inl a1)
  simp [c_site_Name, hc0, hl, g0, a1, e]
 ·by_cases a2 : 9 ≤ s.kind
  ·have e : s.name = ([], false) := if_pos (.inr (.inl (by omega)))
   simp [c_site_Name, hc0, hl, g0, hw, e9, a1, a2, e]
  ·by_cases a3 : s.part < 0
   ·have e : s.name = ([], false) := if_pos (.inr (.inr (.inl (by omega))))
    simp [c_site_Name, hc0, hc1, hl, g0, g1, hw, e9, a1, a2, a3, e]
   ·by_cases a4 : 16 < s.part
    ·have e : s.name = ([], false) := if_pos (.inr (.inr (.inr (.inl (by omega)))))
     simp [c_site_Name, hc0, hc1, hl, g0, g1, hw, e9, a1, a2, a3, a4, e]
    ·cases hmay : s.may with
     | false =>
      have e : s.name = ([], false) := if_pos (.inr (.inr (.inr (.inr hmay))))
      simp [c_site_Name, hc0, hc1, hl, g0, g1, hw, e9, a1, a2, a3, a4, e, hm, hmay, htk, hst, hun]
     | true =>
      obtain ⟨h1, h2, h3⟩ := Si.range hmay
      obtain ⟨d, hd⟩ : ∃ d : Nat, s.deep = d := ⟨s.deep.toNat, by omega⟩
      have hdt : s.deep.toNat = d := by omega
      rw [hdt] at h3
      have hd8 : (d : Int) ≤ 8 := by omega
      have hdg := digits_eq [] s.part (by omega) (by omega)
      obtain ⟨hp1, hp2⟩ := parts_len hmay
      have hj := fun K => sjoin_eq s.parts hp1 hp2 K
      have hparts : s.parts = [wordOf s.kind, text s.part] ++ (s.way.take d).map text := by unfold Si.parts; rw [hdt]; rfl
      obtain ⟨X, hX⟩ : ∃ X, X = ((s.way.take d).any fun w => decide (511 < w)) := ⟨_, rfl⟩
      have e : s.name = if X = true then ([], false) else (Go.Lib.join s.parts [32], true) := by
       unfold Si.name
       rw [if_neg (by rintro (h | h | h | h | h) <;> first | omega | (rw [hmay] at h; cases h)), hdt, hX]
      rw [e]
      have hd0 : ¬ ((d : Int) < 0) := by omega
      have d8' : d ≤ 8 := by omega
      simp [c_site_Name, hc0, hc1, hc, hl, g0, g1, g10, hw, hW, e9, a1, a2, a3, a4, hm, hmay, htk, hst, hun, hdg, hd, hd8, d8']
      refine name_loop (s := s) _ H.length (by simp) ok d d8' h3 (fun r => r = some (V.tup [.str (if X = true then (([] : List UInt8), false) else (Go.Lib.join s.parts [32], true)).1, .bool (if X = true then (([] : List UInt8), false) else (Go.Lib.join s.parts [32], true)).2], H)) _ X [wordOf s.kind, text s.part] (by simp) ?_ ?_ d 0 _ (by omega) ?_ ?_ ?_ ?_ ?_
      ·intro φ' hx h4
       rw [← hparts] at h4
       simp [r_site_Name_0, h4, hj, hx]
      ·intro φ' hx q2 q3
       simp [q2, q3, hx]
      ·rw [List.drop_zero, hX]
      ·simp [tx]
      ·simp
      ·simp
      ·simp
variable {c : UInt8}
theorem spl_same (c : UInt8) (l : List UInt8) : splitOn c (c :: l) = [] :: splitOn c l := by rw [splitOn, if_pos rfl]
theorem spl_ne (c : UInt8) : ∀ s : List UInt8, splitOn c s ≠ []
 | [] => by simp [splitOn]
 | b :: l => by
  rw [splitOn]
  split
  ·simp
  ·split <;> simp
theorem spl_other {b : UInt8} (h : b ≠ c) (l : List UInt8) {w : List UInt8} {ws : List (List UInt8)} (hl : splitOn c l = w :: ws) : splitOn c (b :: l) = (b :: w) :: ws := by rw [splitOn, if_neg h, hl]
theorem spl_none : ∀ (w : List UInt8), c ∉ w → splitOn c w = [w]
 | [], _ => rfl
 | b :: l, h => by
  have hb : b ≠ c := fun e => h (by simp [e])
  exact spl_other hb l (spl_none l (fun e => h (by simp [e])))
theorem spl_app : ∀ (w r : List UInt8), c ∉ w → splitOn c (w ++ c :: r) = w :: splitOn c r
 | [], r, _ => spl_same c r
 | b :: l, r, h => by
  have hb : b ≠ c := fun e => h (by simp [e])
  exact spl_other hb _ (spl_app l r (fun e => h (by simp [e])))
theorem spl_len : ∀ s : List UInt8, (splitOn c s).length ≤ s.length + 1
 | [] => by simp [splitOn]
 | b :: l => by
  have ih := spl_len l
  by_cases h : b = c
  ·subst h; rw [spl_same]; simp; omega
  ·cases hl : splitOn c l with
   | nil => exact absurd hl (spl_ne c l)
   | cons w ws => rw [spl_other h l hl]; rw [hl] at ih; simp at ih ⊢; omega
theorem spl_jn2 (x y : List UInt8) (r : List (List UInt8)) (p : List UInt8) : Go.Lib.join (x :: y :: r) p = x ++ (p ++ Go.Lib.join (y :: r) p) := by
 rw [Go.Lib.join_cons, Go.Lib.join_cons]
 simp [Go.Lib.joinTail]
theorem join_spl : ∀ s : List UInt8, Go.Lib.join (splitOn c s) [c] = s
 | [] => by simp [splitOn, Go.Lib.join_one]
 | b :: l => by
  have ih := join_spl l
  by_cases h : b = c
  ·subst h
   rw [spl_same]
   cases hs : splitOn b l with
   | nil => exact absurd hs (spl_ne b l)
   | cons w ws =>
    rw [hs] at ih
    rw [spl_jn2, ih]; rfl
  ·cases hs : splitOn c l with
   | nil => exact absurd hs (spl_ne c l)
   | cons w ws =>
    rw [hs] at ih
    rw [spl_other h l hs]
    cases ws with
    | nil => rw [Go.Lib.join_one] at ih ⊢; rw [ih]
    | cons v vs => rw [spl_jn2] at ih ⊢; rw [List.cons_append, ih]
theorem spl_step {s : List UInt8} {f i : Nat} (hf : f ≤ i) (hi : i < s.length) (hc : s[i] = c) (hn : c ∉ (s.drop f).take (i - f)) : splitOn c (s.drop f) = (s.take i).drop f :: splitOn c (s.drop (i + 1)) := by
 have e : s.drop f = (s.drop f).take (i - f) ++ c :: s.drop (i + 1) := by
  have h1 : (s.drop f).drop (i - f) = s.drop i := by rw [List.drop_drop]; congr 1; omega
  have h2 : s.drop i = c :: s.drop (i + 1) := by rw [List.drop_eq_getElem_cons hi, hc]
  rw [← h2, ← h1, List.take_append_drop]
 have h3 := spl_app ((s.drop f).take (i - f)) (s.drop (i + 1)) hn
 rw [← e] at h3
 rw [h3, List.drop_take]
theorem spl_last {s : List UInt8} {f : Nat} (hn : c ∉ s.drop f) : splitOn c (s.drop f) = [(s.take s.length).drop f] := by
 rw [spl_none _ hn, List.take_length]
set_option maxHeartbeats 400000
variable (H : Heap) (call : CallF) (R : Option (V × Heap))
theorem read_loop (s : List UInt8) (hs : s.length < 100000) (k : List Item)
  (X : Option Int) (hsome : ∀ v φ', X = some v → Fr.get φ' 4 = .int .i64 v → M call k φ' H = R) (hnone : ∀ φ', X = none → Fr.get φ' 2 = .int .i64 0 → Fr.get φ' 3 = .bool false → retK k φ' H = R) :
  ∀ (j i : Nat) (n : Int) (φ : Fr), i + j = s.length → val n (s.drop i) = X → Fr.get φ 4 = .int .i64 n → Fr.get φ 25 = .own 1 (bytesRows s) → Fr.get φ 26 = .int .i64 s.length → Fr.get φ 27 = .int .i64 i →
  M call (.code l_num_Read_0 :: .blk 0 :: k) φ H = R := by
 intro j
 induction j with
 | zero =>
  intro i n φ hj hv h4 h25 h26 h27
  have hi : ¬ ((i : Int) < s.length) := by omega
  rw [List.drop_eq_nil_of_le (by omega)] at hv
  rw [l_num_Read_0, M_loop]
  simp [b_num_Read_0, h4, h25, h26, h27, hi]
  exact hsome n _ hv.symm (by simp)
 | succ j ih =>
  intro i n φ hj hv h4 h25 h26 h27
  have hi : (i : Int) < s.length := by omega
  have hi' : i < s.length := by omega
  rw [List.drop_eq_getElem_cons hi'] at hv
  have hb := byte_lt s[i]
  have h1 : IntKind.i64.wrap (s[i].toNat : Int) = s[i].toNat := w64 (by omega) (by omega)
  have h2 : IntKind.i64.wrap ((s[i].toNat : Int) - 48) = s[i].toNat - 48 := w64 (by omega) (by omega)
  have h3 : IntKind.i64.wrap ((i : Int) + 1) = (i + 1 : Nat) := by rw [w64] <;> omega
  rw [l_num_Read_0, M_loop, ← l_num_Read_0]
  unfold val at hv
  by_cases hc : s[i].toNat < 48
  ·have hc' : (s[i].toNat : Int) - 48 < 0 := by omega
   rw [if_pos (by omega)] at hv
   simp [b_num_Read_0, h4, h25, h26, h27, hi, hi', h1, h2, h3, hc']
   refine hnone _ hv.symm ?_ ?_ <;> simp
  ·have hc1' : ¬ (s[i].toNat : Int) - 48 < 0 := by omega
   by_cases hc2 : 57 < s[i].toNat
   ·have hc2' : 9 < (s[i].toNat : Int) - 48 := by omega
    rw [if_pos (by omega)] at hv
    simp [b_num_Read_0, h4, h25, h26, h27, hi, hi', h1, h2, h3, hc1', hc2']
    refine hnone _ hv.symm ?_ ?_ <;> simp
   ·have hc2' : ¬ 9 < (s[i].toNat : Int) - 48 := by omega
    rw [if_neg (by omega)] at hv
    simp [b_num_Read_0, h4, h25, h26, h27, hi, hi', h1, h2, h3, hc1', hc2']
    refine ih (i + 1) _ _ (by omega) hv ?_ ?_ ?_ ?_ <;> simp
theorem read_eq (s : List UInt8) : eval tbl noExt n_num_Read [.str s] H = some (.tup [.int .i64 (readR s).1, .bool (readR s).2], H) := by
 rw [eval_M rfl rfl t_num_Read rfl]
 unfold readR
 by_cases h0 : s = []
 ·simp [c_num_Read, h0]
 ·by_cases h1 : 13 < s.length
  ·have h1' : (13 : Int) < s.length := by omega
   simp [c_num_Read, h0, h1, h1']
  ·have h1' : ¬ (13 : Int) < s.length := by omega
   have hp : 0 < s.length := by
    cases s with
    | nil => exact (h0 rfl).elim
    | cons c cs => simp
   have hg : s[0]? = some s[0] := List.getElem?_eq_getElem hp
   have hl : ((s[0].toNat : Int) = 48) ↔ s[0] = 48 := by
    constructor
    ·intro h
     apply UInt8.toNat_inj.1
     have : s[0].toNat = 48 := by omega
     rw [this]; rfl
    ·intro h; rw [h]; rfl
   have last : ∀ φ k, k = [Item.code r_num_Read_0, Item.fin [ARes.t 2, ARes.t 3] (List.length H)] → Fr.get φ 4 = .int .i64 0 → Fr.get φ 25 = .own 1 (bytesRows s) → Fr.get φ 26 = .int .i64 s.length → Fr.get φ 27 = .int .i64 0 → 
    M (eval tbl noExt) (.code l_num_Read_0 :: .blk 0 :: k) φ H = some (.tup [.int .i64 (match val 0 s with
     | none => (0, false)
     | some v => if 1000000000000 < v then (0, false) else (v, true)).1, .bool (match val 0 s with
     | none => (0, false)
     | some v => if 1000000000000 < v then (0, false) else (v, true)).2], H) := by
    intro φ k hk h4 h25 h26 h27
    refine read_loop H _ _ s (by omega) _ (val 0 s) ?_ ?_ s.length 0 0 _ (by omega) rfl h4 h25 h26 h27
    ·intro v φ' hv h4
     rw [hk, hv]
     by_cases hm : 1000000000000 < v <;> simp [r_num_Read_0, h4, hm]
    ·intro φ' hv h2 h3
     rw [hk, hv]
     simp [h2, h3]
   by_cases h2 : s[0] = 48
   ·by_cases h3 : s = [48]
    ·subst h3
     simp [c_num_Read]
     refine last _ _ rfl ?_ ?_ ?_ ?_ <;> simp
    ·simp [c_num_Read, h0, h1, h1', h2, h3, hp, hg, hl]
   ·simp [c_num_Read, h0, h1, h1', h2, hp, hg, hl]
    refine last _ _ rfl ?_ ?_ ?_ ?_ <;> simp
set_option maxHeartbeats 1000000
def kindTo (w : List UInt8) : Nat → Int
 | 0 => 0
 | j + 1 => if siteWords[j]? = some w then (j : Int) else kindTo w j
def Si.putN (s : Si) (i : Nat) (n : Int) : Si := if i = 0 then { s with part := n } else { s with way := s.way.set (i - 1) n }
def numOK (w : List UInt8) : Bool := (readR w).2 && decide ((readR w).1 ≤ 511)
def readNums (s : Si) : Nat → List (List UInt8) → Option Si
 | _, [] => some s
 | i, w :: ws => if numOK w = true then readNums (s.putN i (readR w).1) (i + 1) ws else none
def zeroSi : Si := ⟨0, 0, List.replicate 8 0, 0⟩
def startSi (k d : Int) : Si := ⟨k, 0, List.replicate 8 0, d⟩
def afterNums : Option Si → Si × Bool
 | none => (zeroSi, false)
 | some s => if s.name.2 = true then (s, true) else (zeroSi, false)
def readSi (t : List UInt8) : Si × Bool :=
 let l := splitOn 32 t
 if l.length < 3 ∨ 10 < l.length then (zeroSi, false) else afterNums (readNums (startSi (kindTo ((l[0]?).getD []) 9) ((l.length : Int) - 2)) 0 (l.drop 1))
theorem Si.ok_putN {s : Si} (ok : s.ok) (i : Nat) (n : Int) : (s.putN i n).ok := by
 unfold Si.putN
 split
 ·exact ok
 ·show (s.way.set (i - 1) n).length = 8
  rw [List.length_set]; exact ok
theorem Si.put0 (s : Si) (k : Int) : s.cells.set 0 (iv k) = ({ s with kind := k } : Si).cells := rfl
theorem Si.put1 (s : Si) (n : Int) : s.cells.set 1 (iv n) = (s.putN 0 n).cells := rfl
theorem Si.put2 {s : Si} (ok : s.ok) {i : Nat} (hi : i < 8) (n : Int) : s.cells.set (2 + i) (iv n) = (s.putN (i + 1) n).cells := by
 have h8 : s.way.length = 8 := ok
 have e : s.putN (i + 1) n = { s with way := s.way.set i n } := by unfold Si.putN; rw [if_neg (by omega)]; rfl
 rw [e, Nat.add_comm]
 simp only [Si.cells, List.set_cons_succ]
 rw [List.set_append_left _ _ (by simpa [h8] using hi), List.map_set]
theorem tx_get (l : List (List UInt8)) (i : Nat) : (l.map tx)[i]? = (l[i]?).map tx := List.getElem?_map ..
theorem rkind_loop (n : Nat) (A B : Heap) (hA : A.length = n) (L : List (List UInt8)) (w : List UInt8) (hw : L[0]? = some w) (v2 : V) (call : CallF) (Q : Option (V × Heap) → Prop) (k : List Item) (s : Si) (ok : s.ok)
  (hexit : ∀ φ', Fr.get φ' 2 = v2 → Fr.get φ' 4 = .sl 1 (L.map tx) → Fr.get φ' 5 = .ptr n 0 → Q (M call k φ' (A ++ some ({ s with kind := kindTo w 9 } : Si).cells :: B))) :
  ∀ (j i : Nat) (φ : Fr), i + j = 9 → Fr.get φ 2 = v2 → Fr.get φ 4 = .sl 1 (L.map tx) → Fr.get φ 5 = .ptr n 0 → Fr.get φ 29 = .sl 1 (siteWords.map tx) → Fr.get φ 30 = iv 9 → Fr.get φ 31 = iv i →
   Q (M call (.code l_site_Read_0 :: .blk 0 :: k) φ (A ++ some ({ s with kind := kindTo w i } : Si).cells :: B)) := by
 have e9 : siteWords.length = 9 := rfl
 have h0 : (L.map tx)[0]? = some (tx w) := by rw [tx_get, hw]; rfl
 have htw : tx w = [V.str w] := rfl
 have hlen0 : 0 < L.length := by
  cases L with
  | nil => cases hw
  | cons a b => simp
 have hg0 : ∀ h : 0 < L.length, L[0] = w := fun h => by
  rw [List.getElem?_eq_getElem h] at hw
  exact Option.some.inj hw
 intro j
 induction j with
 | zero =>
  intro i φ hi h2 h4 h5 h29 h30 h31
  obtain rfl : i = 9 := by omega
  rw [l_site_Read_0, M_loop]
  simp [b_site_Read_0, h2, h4, h5, h29, h30, h31]
  exact hexit _ (by simp [h2]) (by simp [h4]) (by simp [h5])
 | succ j ih =>
  intro i φ hi h2 h4 h5 h29 h30 h31
  have hlt : i < siteWords.length := by omega
  obtain ⟨u, hu⟩ : ∃ u, u = siteWords[i] := ⟨_, rfl⟩
  have hu' : siteWords[i]? = some u := by rw [hu]; exact List.getElem?_eq_getElem hlt
  have hr : (siteWords.map tx)[i]? = some (tx u) := by rw [tx_get, hu']; rfl
  have e1 : (i : Int) < 9 := by omega
  have e2 : IntKind.i64.wrap ((i : Int) + 1) = ((i + 1 : Nat) : Int) := by rw [w64] <;> omega
  have hc := Si.len (s := { s with kind := kindTo w i }) ok
  have hs0 := Si.put0 ({ s with kind := kindTo w i } : Si) i
  obtain ⟨K, hK⟩ : ∃ K, K = ({ s with kind := kindTo w i } : Si).cells := ⟨_, rfl⟩
  rw [← hK] at hc hs0 ⊢
  have hset : (A ++ some K :: B).set n (some (({ s with kind := (i : Int) } : Si).cells)) = A ++ some (({ s with kind := (i : Int) } : Si).cells) :: B := by rw [← hA]; exact set0 ..
  have hgn : (A ++ some K :: B)[n]? = some (some K) := by rw [← hA]; exact get0 ..
  rw [l_site_Read_0, M_loop, ← l_site_Read_0]
  by_cases a1 : u = w
  ·have hk : ({ s with kind := kindTo w (i + 1) } : Si) = { s with kind := (i : Int) } := by
    rw [kindTo, if_pos (by rw [hu', a1])]
   have := ih (i + 1)
   rw [hk] at this
   simp only [tx] at h0 hr
   simp [b_site_Read_0, h2, h4, h5, h29, h30, h31, h0, hr, e1, e2, a1, hgn, hc, hs0, hset, e9, hlt, hlen0, hg0, htw]
   refine this _ (by omega) ?_ ?_ ?_ ?_ ?_ ?_ <;> simp [h2, h4, h5, h29, h30]
  ·have hk : ({ s with kind := kindTo w (i + 1) } : Si).cells = K := by
    rw [hK, kindTo, if_neg (by rw [hu']; intro h; exact a1 (Option.some.inj h))]
   have := ih (i + 1)
   rw [hk] at this
   simp only [tx] at h0 hr
   simp [b_site_Read_0, h2, h4, h5, h29, h30, h31, h0, hr, e1, e2, a1, e9, hlt, hlen0, hg0, htw]
   refine this _ (by omega) ?_ ?_ ?_ ?_ ?_ ?_ <;> simp [h2, h4, h5, h29, h30]
theorem readNums_deep (d : Int) : ∀ (ws : List (List UInt8)) (s : Si) (i : Nat), readNums { s with deep := d } i ws = (readNums s i ws).map fun s => { s with deep := d }
 | [], s, i => rfl
 | w :: ws, s, i => by
  rw [readNums, readNums]
  split
  ·have e : ({ s with deep := d } : Si).putN i (readR w).1 = { s.putN i (readR w).1 with deep := d } := by unfold Si.putN; split <;> rfl
   rw [e, readNums_deep d ws]
  ·rfl
theorem readNums_ok : ∀ (ws : List (List UInt8)) (s : Si) (i : Nat) (s' : Si), s.ok → readNums s i ws = some s' → s'.ok ∧ s'.kind = s.kind
 | [], s, i, s', ok, h => by cases h; exact ⟨ok, rfl⟩
 | w :: ws, s, i, s', ok, h => by
  rw [readNums] at h
  split at h
  ·have := readNums_ok ws _ _ s' (Si.ok_putN ok _ _) h
   refine ⟨this.1, this.2.trans ?_⟩
   unfold Si.putN; split <;> rfl
  ·cases h
theorem nums_full (k p d : Int) : ∀ (ws : List (List UInt8)) (done : List Int) (s' : Si), done.length + ws.length ≤ 8 → readNums ⟨k, p, done ++ List.replicate (8 - done.length) 0, d⟩ (done.length + 1) ws = some s' →
  (∀ w ∈ ws, numOK w = true) ∧ s' = ⟨k, p, done ++ (ws.map (fun w => (readR w).1) ++ List.replicate (8 - done.length - ws.length) 0), d⟩
 | [], done, s', _, h => by
  cases h
  exact ⟨by simp, by simp⟩
 | w :: ws, done, s', hl, h => by
  simp only [List.length_cons] at hl
  rw [readNums] at h
  split at h
  ·rename_i hw
   have e : (⟨k, p, done ++ List.replicate (8 - done.length) 0, d⟩ : Si).putN (done.length + 1) (readR w).1 = ⟨k, p, (done ++ [(readR w).1]) ++ List.replicate (8 - (done ++ [(readR w).1]).length) 0, d⟩ := by
    unfold Si.putN
    rw [if_neg (by omega)]
    have h1 : (done ++ List.replicate (8 - done.length) 0).set done.length (readR w).1 = (done ++ [(readR w).1]) ++ List.replicate (8 - (done.length + 1)) (0 : Int) := by
     obtain ⟨m, hm⟩ : ∃ m, 8 - done.length = m + 1 := ⟨7 - done.length, by omega⟩
     rw [hm, List.set_append_right _ _ (Nat.le_refl _), show 8 - (done.length + 1) = m by omega]
     simp [List.replicate_succ]
    simp only [Nat.add_sub_cancel, h1, List.length_append, List.length_singleton]
   rw [e] at h
   have := nums_full k p d ws (done ++ [(readR w).1]) s' (by simp; omega) (by simpa using h)
   refine ⟨fun x hx => ?_, ?_⟩
   ·rcases List.mem_cons.1 hx with rfl | hx
    ·exact hw
    ·exact this.1 x hx
   ·rw [this.2]
    simp only [List.length_append, List.length_singleton, List.map_cons, List.append_assoc, List.cons_append, List.nil_append, List.length_cons, List.length_nil, Nat.zero_add]
    rw [show 8 - (done.length + 1) - ws.length = 8 - done.length - (ws.length + 1) by omega]
  ·cases h
theorem kindTo_word (w : List UInt8) : ∀ j, j ≤ 9 → kindTo w j < 9 ∧ (1 ≤ kindTo w j → wordOf (kindTo w j) = w)
 | 0, _ => ⟨by show (0 : Int) < 9; decide, fun h => by simp [kindTo] at h⟩
 | j + 1, hj => by
  rw [kindTo]
  split
  ·rename_i h
   refine ⟨by omega, fun h1 => ?_⟩
   unfold wordOf
   rw [if_neg (by omega), show ((j : Int)).toNat = j by omega, h]; rfl
  ·exact kindTo_word w j (by omega)
theorem name_read {t w0 : List UInt8} {L : List (List UInt8)} (hL : L = splitOn 32 t) (h3 : 3 ≤ L.length) (h10 : L.length ≤ 10) (hw : L[0]? = some w0) {s : Si} (h : readNums (startSi (kindTo w0 9) ((L.length : Int) - 2)) 0 (L.drop 1) = some s) (hn : s.name.2 = true) : s.name.1 = t := by
 have hj : Go.Lib.join L [32] = t := by rw [hL]; exact join_spl t
 match L, hw, h3 with
 | a :: b :: ws, hw, h3 =>
  simp at hw
  subst hw
  simp only [List.drop_succ_cons, List.drop_zero, readNums] at h
  split at h
  ·rename_i hb
   have e : (startSi (kindTo a 9) (((a :: b :: ws).length : Int) - 2)).putN 0 (readR b).1 = ⟨kindTo a 9, (readR b).1, [] ++ List.replicate (8 - ([] : List Int).length) 0, (ws.length : Int)⟩ := by
    unfold Si.putN startSi
    rw [if_pos rfl]
    simp only [List.length_cons]
    congr 1
    omega
   rw [e] at h
   simp only [List.length_cons] at h10
   obtain ⟨h1, h2⟩ := nums_full _ _ _ ws [] s (by simp; omega) h
   simp only [List.nil_append, List.length_nil, Nat.sub_zero] at h2
   have hk := kindTo_word a 9 (Nat.le_refl _)
   unfold Si.name at hn ⊢
   split at hn
   ·cases hn
   ·rename_i hc
    split at hn
    ·cases hn
    ·rename_i hc2
     rw [if_neg hc, if_neg hc2]
     have hc3 : ¬ s.kind < 1 := fun h => hc (.inl h)
     have hkk : s.kind = kindTo a 9 := by rw [h2]
     rw [hkk] at hc3
     have p1 : wordOf s.kind = a := by rw [hkk]; exact hk.2 (by omega)
     have tr : ∀ w, numOK w = true → text (readR w).1 = w := fun w hw => text_read w (by unfold numOK at hw; simp only [Bool.and_eq_true] at hw; exact hw.1)
     have p2 : text s.part = b := by rw [h2]; exact tr b hb
     have p3 : (s.way.take s.deep.toNat).map text = ws := by
      rw [h2]
      simp only [Int.toNat_natCast]
      rw [List.take_append_of_le_length (by simp), List.take_of_length_le (by simp), List.map_map]
      have : ∀ l : List (List UInt8), (∀ w ∈ l, numOK w = true) → l.map (text ∘ fun w => (readR w).1) = l := by
       intro l
       induction l with
       | nil => intro _; rfl
       | cons x l ih => intro hl; rw [List.map_cons, ih (fun w hw => hl w (by simp [hw]))]; simp only [Function.comp, tr x (hl x (by simp))]
      exact this ws h1
     have : s.parts = a :: b :: ws := by unfold Si.parts; rw [p1, p2, p3]
     rw [this, hj]
  ·cases h
theorem name_len {s : Si} (hn : s.name.2 = true) : s.name.1.length ≤ 1000 := by
 unfold Si.name at hn ⊢
 split at hn
 ·cases hn
 ·rename_i hc
  split at hn
  ·cases hn
  ·rename_i hc2
   rw [if_neg hc, if_neg hc2]
   have hmay : s.may = true := by
    cases h : s.may with
    | true => rfl
    | false => exact absurd (.inr (.inr (.inr (.inr h)))) hc
   have h1 := (parts_len hmay).1
   have h2 : ∀ w ∈ s.parts, w.length ≤ 60 := by
    intro w hw
    unfold Si.parts at hw
    simp only [List.mem_cons, List.mem_map] at hw
    rcases hw with rfl | rfl | ⟨n, _, rfl⟩
    ·have := wordOf_len s.kind; omega
    ·have := text_length s.part; omega
    ·have := text_length n; omega
   have h3 := jn_len [32] 60 s.parts h2
   simp only [List.length_singleton] at h3
   show (Go.Lib.join s.parts [32]).length ≤ 1000
   have : (60 + 1) * s.parts.length ≤ (60 + 1) * 10 := Nat.mul_le_mul_left _ h1
   omega
theorem refWord_eq (k : Int) (H : Heap) : eval tbl noExt n_r25_Word [iv k] H = some (.str (wordOf k), H) := by
 rw [eval_M rfl rfl t_r25_Word rfl]
 by_cases h0 : k < 1
 ·have e : wordOf k = [63] := if_pos (.inl (by omega))
  simp [c_r25_Word, h0, e]
 ·by_cases h1 : 8 < k
  ·have e : wordOf k = [63] := if_pos (.inr (by omega))
   simp [c_r25_Word, h0, h1, e]
  ·rcases nine (k := k) (by omega) (by omega) with rfl | rfl | rfl | rfl | rfl | rfl | rfl | rfl | rfl
   ·omega
   all_goals (simp [c_r25_Word, wordOf, siteWords, w64])
variable {s : Si}
theorem refMay_loop (K : Heap) (n : Nat) (hK : K[n]? = some (some s.cells)) (ok : s.ok) (call : CallF) (Q : Option (V × Heap) → Prop) (k : List Item) (X : Bool)
  (hyes : ∀ φ', X = true → Q (M call k φ' K)) (hno : ∀ φ', X = false → Fr.get φ' 2 = .bool false → Q (retK k φ' K)) :
  ∀ (j i : Nat) (φ : Fr), i + j = 8 → mayFrom s.deep i (s.way.drop i) = X → Fr.get φ 1 = .ptr n 0 → Fr.get φ 3 = iv i → Q (M call (.code l_r25_may_0 :: .blk 0 :: k) φ K) := by
 have h8 : s.way.length = 8 := ok
 have hc := Si.c10 ok
 intro j
 induction j with
 | zero =>
  intro i φ hi hX h1 h3
  obtain rfl : i = 8 := by omega
  rw [List.drop_eq_nil_of_le (by omega)] at hX
  rw [l_r25_may_0, M_loop]
  simp [b_r25_may_0, h1, h3]
  exact hyes _ (by rw [← hX]; rfl)
 | succ j ih =>
  intro i φ hi hX h1 h3
  have hlt : i < s.way.length := by omega
  rw [List.drop_eq_getElem_cons hlt, mayFrom] at hX
  have hw := Si.cw (s := s) (i := i) (w := s.way[i]) (List.getElem?_eq_getElem hlt)
  have e1 : (i : Int) < 8 := by omega
  have e2 : IntKind.i64.wrap ((i : Int) + 1) = ((i + 1 : Nat) : Int) := by rw [w64] <;> omega
  rw [l_r25_may_0, M_loop, ← l_r25_may_0]
  by_cases a1 : s.way[i] < 0
  ·have a1' : ¬ 0 ≤ s.way[i] := by omega
   simp [b_r25_may_0, h1, h3, hK, hw, hc, e1, e2, a1]
   exact hno _ (by rw [← hX]; simp [a1']) (by simp)
  ·have a1' : 0 ≤ s.way[i] := by omega
   by_cases a2 : s.deep ≤ i
   ·by_cases a3 : s.way[i] = 0
    ·simp [b_r25_may_0, h1, h3, hK, hw, hc, e1, e2, a1, a2, a3]
     exact ih (i + 1) _ (by omega) (by rw [← hX]; simp [a1', a2, a3]) (by simp [h1]) (by simp)
    ·simp [b_r25_may_0, h1, h3, hK, hw, hc, e1, e2, a1, a2, a3]
     exact hno _ (by rw [← hX]; simp [a1', a2, a3]) (by simp)
   ·simp [b_r25_may_0, h1, h3, hK, hw, hc, e1, e2, a1, a2]
    exact ih (i + 1) _ (by omega) (by rw [← hX]; simp [a1', a2]) (by simp [h1]) (by simp)
theorem refMay_eq (s : Si) (ok : s.ok) (H : Heap) : eval tbl noExt n_r25_may [.agg s.cells] H = some (.bool s.may, H) := by
 have hc := Si.c10 ok
 rw [eval_M rfl rfl t_r25_may rfl]
 unfold Si.may
 by_cases a1 : s.deep < 1
 ·have a1' : ¬ 1 ≤ s.deep := by omega
  simp [c_r25_may, hc, a1, a1']
 ·have a1' : 1 ≤ s.deep := by omega
  by_cases a2 : 8 < s.deep
  ·have a2' : ¬ s.deep ≤ 8 := by omega
   simp [c_r25_may, hc, a1, a2, a2']
  ·have a2' : s.deep ≤ 8 := by omega
   have hm := mayFrom_eq s.deep a1' 0 s.way
   simp only [a1', a2', decide_true, Bool.true_and]
   rw [Nat.sub_zero] at hm
   rw [← hm]
   simp [c_r25_may, hc, a1, a2]
   refine refMay_loop (s := s) _ H.length (by simp) ok _ (fun r => r = some (V.bool (mayFrom s.deep 0 s.way), H)) _ (mayFrom s.deep 0 s.way) ?_ ?_ 8 0 _ (by omega) rfl (by simp) (by simp)
   ·intro φ' hX
    simp [r_r25_may_0, hX]
   ·intro φ' hX h2
    simp [hX, h2]
set_option maxHeartbeats 400000
variable (H : Heap)
theorem digs_one {u : Nat} (h : u < 10) : digs 19 u [] = [dig u] := by
 unfold digs
 rw [if_pos (by omega)]
theorem digs_snoc {u : Nat} (h : 10 ≤ u) (h2 : u < 10 ^ 19) : digs 19 u [] = digs 19 (u / 10) [] ++ [dig u] := by
 have e : (10 : Nat) ^ 19 = 10 * 10 ^ 18 := by decide
 obtain ⟨s, hg, hl, hv, hh⟩ := good_of 17 (u / 10) (by omega)
 have hd := dig_toNat u
 have hhd : (s ++ [dig u]).head? = s.head? := by
  cases s with
  | nil => exact (hg.1 rfl).elim
  | cons x s => rfl
 have hg2 : Good (s ++ [dig u]) := by
  refine ⟨by simp, fun c hc => ?_, fun h' => ?_⟩
  ·rcases List.mem_append.1 hc with hc | hc
   ·exact hg.2.1 c hc
   ·simp at hc; subst hc; unfold isDigP; omega
  ·rw [hhd] at h'; exact (hh (by omega) h').elim
 have hv2 : valN 0 (s ++ [dig u]) = u := by rw [valN_append s (dig u) 0, hv]; omega
 have h3 := digs_good 19 (s ++ [dig u]) [] hg2 (by simp; omega)
 have h4 := digs_good 19 s [] hg (by omega)
 rw [hv2, List.append_nil] at h3
 rw [hv, List.append_nil] at h4
 rw [h3, h4]
theorem rowsBytes_one (c : UInt8) : rowsBytes [[.int .u8 (c.toNat : Int)]] = some [c] := by
 have := byte_lt c
 unfold rowsBytes
 rw [if_pos (by omega)]
 simp [rowsBytes]
theorem w8 (u : Nat) {x : Int} (h : x = 48 + ((u % 10 : Nat) : Int)) : IntKind.u8.wrap (IntKind.i64.wrap x) = ((dig u).toNat : Int) := by
 have := dig_toNat u
 rw [w64 (by omega) (by omega), IntKind.wrap_u8]; omega
theorem refDigits_eq : ∀ (k : Nat) (n : Int) (H : Heap), n.natAbs ≤ k → -9223372036854775808 ≤ n → n ≤ 9223372036854775807 → eval tbl noExt n_r01_Digits [.int .i64 n] H = some (.str (text n), H) := by
 intro k
 induction k using Nat.strongRecOn with
 | _ k ih =>
  intro n H hk h1 h2
  have e19 : (10 : Nat) ^ 19 = 10000000000000000000 := by decide
  have hlen := text_length (n.tdiv 10)
  rw [eval_M rfl rfl t_r01_Digits rfl]
  by_cases ha : n < 0
  ·have hx : n.tdiv 10 = -(((-n).toNat / 10 : Nat) : Int) := by
    obtain ⟨m, rfl⟩ : ∃ m : Nat, n = -(m : Int) := ⟨n.natAbs, by omega⟩
    rw [Int.neg_tdiv, Int.tdiv_eq_ediv_of_nonneg (by omega)]; simp
   have hm : n.tmod 10 = -(((-n).toNat % 10 : Nat) : Int) := by
    obtain ⟨m, rfl⟩ : ∃ m : Nat, n = -(m : Int) := ⟨n.natAbs, by omega⟩
    rw [Int.neg_tmod, Int.tmod_eq_emod_of_nonneg (by omega)]; simp
   by_cases hb : -10 < n
   ·have hw := w8 (-n).toNat (x := 48 - n) (by omega)
    have ht : text n = 45 :: [dig (-n).toNat] := by
     unfold text; rw [if_pos ha, digs_one (by omega)]
    simp [c_r01_Digits, ha, hb, hw, rowsBytes_one, ht, chunk, List.replicate]
   ·have hw := w8 (-n).toNat (x := 48 - n.tmod 10) (by omega)
    have ht : text n = text (n.tdiv 10) ++ [dig (-n).toNat] := by
     unfold text
     rw [if_pos ha, if_pos (by rw [hx]; omega), digs_snoc (by omega) (by omega)]
     have : (-n.tdiv 10).toNat = (-n).toNat / 10 := by rw [hx]; omega
     rw [this]; rfl
    have hr := ih (n.tdiv 10).natAbs (by rw [hx]; omega) (n.tdiv 10) [] (Nat.le_refl _) (by rw [hx]; omega) (by rw [hx]; omega)
    have hq : IntKind.i64.wrap (n.tdiv 10) = n.tdiv 10 := w64 (by rw [hx]; omega) (by rw [hx]; omega)
    have hl : (text (n.tdiv 10)).length + 1 < 4611686018427387904 := by omega
    simp [c_r01_Digits, ha, hb, hw, rowsBytes_one, ht, chunk, List.replicate, hr, hq, hl]
  ·have hc : -10 < n := by omega
   have hx : n.tdiv 10 = ((n.toNat / 10 : Nat) : Int) := by rw [Int.tdiv_eq_ediv_of_nonneg (by omega)]; omega
   have hm : n.tmod 10 = ((n.toNat % 10 : Nat) : Int) := by rw [Int.tmod_eq_emod_of_nonneg (by omega)]; omega
   by_cases hb : 9 < n
   ·have hw := w8 n.toNat (x := 48 + n.tmod 10) (by omega)
    have ht : text n = text (n.tdiv 10) ++ [dig n.toNat] := by
     unfold text
     rw [if_neg ha, if_neg (by rw [hx]; omega), digs_snoc (by omega) (by omega)]
     have : (n.tdiv 10).toNat = n.toNat / 10 := by rw [hx]; omega
     rw [this]
    have hr := ih (n.tdiv 10).natAbs (by rw [hx]; omega) (n.tdiv 10) [] (Nat.le_refl _) (by rw [hx]; omega) (by rw [hx]; omega)
    have hq : IntKind.i64.wrap (n.tdiv 10) = n.tdiv 10 := w64 (by rw [hx]; omega) (by rw [hx]; omega)
    have hl : (text (n.tdiv 10)).length + 1 < 4611686018427387904 := by omega
    simp [c_r01_Digits, ha, hb, hc, hw, rowsBytes_one, ht, chunk, List.replicate, hr, hq, hl]
   ·have hw := w8 n.toNat (x := 48 + n) (by omega)
    have ht : text n = [dig n.toNat] := by
     unfold text; rw [if_neg ha, digs_one (by omega)]
    simp [c_r01_Digits, ha, hb, hc, hw, rowsBytes_one, ht, chunk, List.replicate]
set_option maxHeartbeats 1000000
variable {s : Si}
theorem refName_loop (K : Heap) (n : Nat) (hK : K[n]? = some (some s.cells)) (ok : s.ok) (d : Nat) (hd : s.deep = d) (hd8 : d ≤ 8) (hpos : ∀ w ∈ s.way.take d, 0 ≤ w) (Q : Option (V × Heap) → Prop) (k : List Item)
  (X : Bool) (a b : List UInt8) (ha : a.length ≤ 100) (hb : b.length ≤ 100)
  (hyes : ∀ φ', X = false → Fr.get φ' 4 = .str (Go.Lib.join (a :: b :: (s.way.take d).map text) [32]) → Q (M (eval tbl noExt) k φ' K)) (hno : ∀ φ', X = true → Fr.get φ' 2 = .str [] → Fr.get φ' 3 = .bool false → Q (retK k φ' K)) :
  ∀ (j i : Nat) (φ : Fr), i + j = d → (((s.way.take d).drop i).any fun w => decide (511 < w)) = X → Fr.get φ 4 = .str (Go.Lib.join (a :: b :: ((s.way.take d).take i).map text) [32]) → Fr.get φ 1 = .ptr n 0 → Fr.get φ 5 = iv i →
   Q (M (eval tbl noExt) (.code l_r25_Name_0 :: .blk 0 :: k) φ K) := by
 have h8 : s.way.length = 8 := ok
 have hln : (s.way.take d).length = d := by simp [h8]; omega
 have hc := Si.c10 ok
 rw [hd] at hc
 intro j
 induction j with
 | zero =>
  intro i φ hi hX h4 h1 h5
  have hlt : ¬ (i : Int) < d := by omega
  rw [List.drop_eq_nil_of_le (by omega)] at hX
  rw [List.take_of_length_le (by omega)] at h4
  rw [l_r25_Name_0, M_loop]
  simp [b_r25_Name_0, h4, h1, h5, hK, hc, hlt]
  exact hyes _ (by rw [← hX]; rfl) (by simp [h4])
 | succ j ih =>
  intro i φ hi hX h4 h1 h5
  have hlt : i < (s.way.take d).length := by omega
  have hlt' : i < s.way.length := by omega
  rw [List.drop_eq_getElem_cons hlt, List.any_cons] at hX
  obtain ⟨u, hu⟩ : ∃ u, u = (s.way.take d)[i] := ⟨_, rfl⟩
  have hu' : s.way[i]? = some u := by
   rw [hu]
   simp [hlt']
  have hp := hpos u (by rw [hu]; exact List.getElem_mem _)
  rw [← hu] at hX
  have hw := Si.cw (s := s) (i := i) (w := u) hu'
  have e1 : (i : Int) < d := by omega
  have e2 : IntKind.i64.wrap ((i : Int) + 1) = ((i + 1 : Nat) : Int) := by rw [w64] <;> omega
  have e3 : (i : Int) < 8 := by omega
  rw [l_r25_Name_0, M_loop, ← l_r25_Name_0]
  by_cases a1 : 511 < u
  ·simp [b_r25_Name_0, h4, h1, h5, hK, hc, hw, e1, e2, e3, a1]
   exact hno _ (by rw [← hX]; simp [a1]) (by simp) (by simp)
  ·have hdg := refDigits_eq u.natAbs u [] (Nat.le_refl _) (by omega) (by omega)
   have htl := text_length u
   have hnext : Go.Lib.join (a :: b :: ((s.way.take d).take (i + 1)).map text) [32] = Go.Lib.join (a :: b :: ((s.way.take d).take i).map text) [32] ++ (32 :: text u) := by
    rw [List.take_add_one, List.getElem?_eq_getElem hlt, ← hu]
    simp only [Option.toList_some, List.map_append, List.map_cons, List.map_nil]
    have := jn_snoc (a :: b :: ((s.way.take d).take i).map text) (text u) [32] (by simp)
    simpa using this
   obtain ⟨T, hT⟩ : ∃ T, T = Go.Lib.join (a :: b :: ((s.way.take d).take i).map text) [32] := ⟨_, rfl⟩
   have hTl : T.length ≤ 2000 := by
    have := jn_len [32] 100 (a :: b :: ((s.way.take d).take i).map text) (fun w hw => by
     simp only [List.mem_cons, List.mem_map] at hw
     rcases hw with rfl | rfl | ⟨m, _, rfl⟩
     ·exact ha
     ·exact hb
     ·have := text_length m; omega)
    rw [← hT] at this
    simp only [List.length_cons, List.length_map, List.length_take, List.length_nil] at this
    have h2 : (100 + (0 + 1)) * (min i (min d s.way.length) + 1 + 1) ≤ 101 * 10 := Nat.mul_le_mul (by omega) (by omega)
    omega
   rw [← hT] at h4 hnext
   clear hT
   have l1 : T.length + 1 < 4611686018427387904 := by omega
   have l2 : T.length + 1 + (text u).length < 4611686018427387904 := by omega
   have l3 : T.length + ((text u).length + 1) < 4611686018427387904 := by omega
   simp [b_r25_Name_0, h4, h1, h5, hK, hc, hw, e1, e2, e3, a1, hdg, l1, l2, l3]
   exact ih (i + 1) _ (by omega) (by rw [← hX]; simp [a1]) (by rw [hnext]; simp) (by simp [h1]) (by simp)
theorem refNameS_eq (s : Si) (ok : s.ok) (H : Heap) : eval tbl noExt n_r25_Name [.agg s.cells] H = some (.tup [.str s.name.1, .bool s.name.2], H) := by
 have hc0 := Si.c0 (s := s)
 have hc1 := Si.c1 (s := s)
 have hc := Si.c10 ok
 have hl := Si.len ok
 have hst := Si.strip (s := s)
 have htk := Si.take ok
 have hun := fun n => Si.under (s := s) n
 have hm := fun K => refMay_eq s ok K
 have hW := fun K => refWord_eq s.kind K
 have g0 : ∀ h : 0 < s.cells.length, s.cells[0] = iv s.kind := fun h => rfl
 have g1 : ∀ h : 1 < s.cells.length, s.cells[1] = iv s.part := fun h => rfl
 rw [eval_M rfl rfl t_r25_Name rfl]
 by_cases a1 : s.kind < 1
 ·have e : s.name = ([], false) := if_pos (.inl a1)
  simp [c_r25_Name, hc0, hl, g0, a1, e]
 ·by_cases a2 : 8 < s.kind
  ·have e : s.name = ([], false) := if_pos (.inr (.inl (by omega)))
   simp [c_r25_Name, hc0, hl, g0, a1, a2, e]
  ·by_cases a3 : s.part < 0
   ·have e : s.name = ([], false) := if_pos (.inr (.inr (.inl (by omega))))
    simp [c_r25_Name, hc0, hc1, hl, g0, g1, a1, a2, a3, e]
   ·by_cases a4 : 16 < s.part
    ·have e : s.name = ([], false) := if_pos (.inr (.inr (.inr (.inl (by omega)))))
     simp [c_r25_Name, hc0, hc1, hl, g0, g1, a1, a2, a3, a4, e]
    ·cases hmay : s.may with
     | false =>
      have e : s.name = ([], false) := if_pos (.inr (.inr (.inr (.inr hmay))))
      simp [c_r25_Name, hc0, hc1, hl, g0, g1, a1, a2, a3, a4, e, hm, hmay, htk, hst, hun]
     | true =>
      obtain ⟨h1, h2, h3⟩ := Si.range hmay
      obtain ⟨d, hd⟩ : ∃ d : Nat, s.deep = d := ⟨s.deep.toNat, by omega⟩
      have hdt : s.deep.toNat = d := by omega
      rw [hdt] at h3
      have hdg := refDigits_eq s.part.natAbs s.part [] (Nat.le_refl _) (by omega) (by omega)
      have hparts : s.parts = wordOf s.kind :: text s.part :: (s.way.take d).map text := by unfold Si.parts; rw [hdt]
      obtain ⟨X, hX⟩ : ∃ X, X = ((s.way.take d).any fun w => decide (511 < w)) := ⟨_, rfl⟩
      have e : s.name = if X = true then ([], false) else (Go.Lib.join s.parts [32], true) := by
       unfold Si.name
       rw [if_neg (by rintro (h | h | h | h | h) <;> first | omega | (rw [hmay] at h; cases h)), hdt, hX]
      rw [e]
      have hwl := wordOf_len s.kind
      have htl := text_length s.part
      have l1 : (wordOf s.kind).length + 1 < 4611686018427387904 := by omega
      have l2 : (wordOf s.kind).length + 1 + (text s.part).length < 4611686018427387904 := by omega
      have l3 : (wordOf s.kind).length + ((text s.part).length + 1) < 4611686018427387904 := by omega
      simp [c_r25_Name, hc0, hc1, hl, g0, g1, hW, a1, a2, a3, a4, hm, hmay, htk, hst, hun, hdg, l1, l2, l3]
      refine refName_loop (s := s) _ H.length (by simp) ok d hd (by omega) h3 (fun r => r = some (V.tup [.str (if X = true then (([] : List UInt8), false) else (Go.Lib.join s.parts [32], true)).1, .bool (if X = true then (([] : List UInt8), false) else (Go.Lib.join s.parts [32], true)).2], H)) _ X (wordOf s.kind) (text s.part) (by omega) (by omega) ?_ ?_ d 0 _ (by omega) ?_ ?_ ?_ ?_
      ·intro φ' hx h4
       rw [← hparts] at h4
       simp [r_r25_Name_0, h4, hx]
      ·intro φ' hx q2 q3
       simp [q2, q3, hx]
      ·rw [List.drop_zero, hX]
      ·rw [List.take_zero, List.map_nil, jn_cons2, Go.Lib.join_one]; simp
      ·simp
      ·simp
end Go.AM.Spec
