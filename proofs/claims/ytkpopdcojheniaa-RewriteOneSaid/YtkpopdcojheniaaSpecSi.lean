/-
 The parts of this proof that speak of the functions one by one.
-/
import Derived.Test.YtkpopdcojheniaaSpc
import Derived.Test.YtkpopdcojheniaaSpecTr
import Derived.Test.YtkpopdcojheniaaTyl
namespace Go.AM.Spec
set_option linter.unusedVariables false
set_option linter.unusedSimpArgs false
set_option maxHeartbeats 1000000
set_option maxRecDepth 10000
abbrev iv (n : Int) : V := .int .i64 n
structure Si where
 kind : Int
 part : Int
 way : List Int
 deep : Int
 deriving DecidableEq
def Si.cells (s : Si) : List V := iv s.kind :: iv s.part :: (s.way.map iv ++ [iv s.deep])
def Si.ok (s : Si) : Prop := s.way.length = 8
theorem map_iv_strip (l : List Int) : (l.map iv).map V.strip = l.map iv := by
 rw [List.map_map]; rfl
theorem eqCells_ints : ∀ (n : Nat) (k : IntKind) (xs ys : List Int), xs.length = n → ys.length = n → eqCells (List.replicate n (.int k)) (xs.map (V.int k)) (ys.map (V.int k)) = some (decide (xs = ys))
 | 0, _, [], [], _, _ => rfl
 | n + 1, k, x :: xs, y :: ys, hx, hy => by
  simp only [List.length_cons, Nat.add_right_cancel_iff] at hx hy
  simp [List.replicate, eqCells, eqCells_ints n k xs ys hx hy]
 | 0, _, _ :: _, _, h, _ => by simp at h
 | 0, _, [], _ :: _, _, h => by simp at h
 | n + 1, _, [], _, h, _ => by simp at h
 | n + 1, _, _ :: _, [], _, h => by simp at h
variable {s : Si}
theorem Si.len (h : s.ok) : s.cells.length = 11 := by simp [Si.cells, show s.way.length = 8 from h]
theorem Si.c0 : s.cells[0]? = some (iv s.kind) := rfl
theorem Si.c1 : s.cells[1]? = some (iv s.part) := rfl
theorem Si.c10 (h : s.ok) : s.cells[10]? = some (iv s.deep) := by
 have h8 : s.way.length = 8 := h
 simp only [Si.cells, List.getElem?_cons_succ]
 rw [List.getElem?_append_right (by simp [h8])]
 simp [h8]
theorem Si.cw {i : Nat} {w : Int} (h : s.way[i]? = some w) : s.cells[2 + i]? = some (iv w) := by
 have hi : i < s.way.length := by
  rcases Nat.lt_or_ge i s.way.length with h1 | h1
  ·exact h1
  ·rw [List.getElem?_eq_none h1] at h; cases h
 rw [Nat.add_comm]
 simp only [Si.cells, List.getElem?_cons_succ]
 rw [List.getElem?_append_left (by simpa using hi), List.getElem?_map, h]; rfl
theorem Si.strip : s.cells.map V.strip = s.cells := by simp [Si.cells, Function.comp_def, V.strip]
theorem Si.one : s.cells.all V.one = true := by simp [Si.cells, V.one]
theorem Si.under (n : Nat) : V.underAll n s.cells = true := by
 have : ∀ l : List Int, V.underAll n (l.map iv ++ [iv s.deep]) = true := by
  intro l
  induction l with
  | nil => simp [V.underAll, V.under]
  | cons x l ih => simp only [List.map_cons, List.cons_append, V.underAll, V.under, ih, Bool.and_self]
 simp only [Si.cells, V.underAll, V.under, this, Bool.and_self]
theorem Si.take (h : s.ok) : s.cells.take 11 = s.cells := List.take_of_length_le (by rw [Si.len h]; omega)
theorem Si.ways (h : s.ok) : (s.cells.drop 2).take 8 = s.way.map iv := by
 have h8 : s.way.length = 8 := h
 simp only [Si.cells, List.drop_succ_cons, List.drop_zero]
 rw [List.take_append_of_le_length (by simp [h8]), List.take_of_length_le (by simp [h8])]
def Si.may (s : Si) : Bool := decide (1 ≤ s.deep) && (decide (s.deep ≤ 8) && (s.way.all (fun w => decide (0 ≤ w)) && (s.way.drop s.deep.toNat).all (fun w => decide (w = 0))))
variable {s : Si}
def zeroS (k : Nat) : List V := List.replicate k (V.int .i64 0)
theorem zeroS_eq (k : Nat) : zeroS k = (List.replicate k (0 : Int)).map iv := by simp [zeroS]
theorem setMany_mid (a b vs cs : List V) (h : vs.length = b.length) : setMany (a ++ (b ++ cs)) a.length vs = a ++ (vs ++ cs) := by
 induction vs generalizing a b with
 | nil =>
  have : b = [] := List.eq_nil_of_length_eq_zero (by simpa using h.symm)
  subst this; rfl
 | cons v vs ih =>
  match b, h with
  | x :: b, h =>
   simp only [List.length_cons, Nat.add_right_cancel_iff] at h
   simp only [setMany]
   have e1 : (a ++ (x :: b ++ cs)).set a.length v = (a ++ [v]) ++ (b ++ cs) := by
    rw [List.set_append_right _ _ (Nat.le_refl _)]
    simp
   have := ih (a ++ [v]) b h
   rw [e1]
   simp only [List.length_append, List.length_singleton] at this
   rw [this]; simp
theorem Si.cut (ok : s.ok) (d : Nat) (hd : d ≤ 8) : (((setMany s.cells (2 + d) (zeroS (8 - d))).drop 2).take 8) = (s.way.take d ++ List.replicate (8 - d) 0).map iv := by
 have h8 : s.way.length = 8 := ok
 have e : s.cells = (iv s.kind :: iv s.part :: (s.way.take d).map iv) ++ ((s.way.drop d).map iv ++ [iv s.deep]) := by
  simp only [Si.cells, List.cons_append, ← List.append_assoc, ← List.map_append, List.take_append_drop]
 have hl : (iv s.kind :: iv s.part :: (s.way.take d).map iv).length = 2 + d := by simp; omega
 have h1 := setMany_mid (iv s.kind :: iv s.part :: (s.way.take d).map iv) ((s.way.drop d).map iv) (zeroS (8 - d)) [iv s.deep] (by rw [zeroS_eq]; simp [h8])
 rw [hl, ← e] at h1
 rw [h1]
 simp only [List.cons_append, List.drop_succ_cons, List.drop_zero, ← List.append_assoc]
 rw [List.take_append_of_le_length (by rw [zeroS_eq]; simp; omega), zeroS_eq, ← List.map_append, List.take_of_length_le (by simp; omega)]
theorem replicate_iff (l : List Int) : l = List.replicate l.length 0 ↔ (l.all fun w => decide (w = 0)) = true := by
 rw [List.eq_replicate_iff]
 simp
theorem cut_iff (ok : s.ok) (d : Nat) (hd : d ≤ 8) : decide (s.way.take d ++ List.replicate (8 - d) 0 = s.way) = (s.way.drop d).all (fun w => decide (w = 0)) := by
 have h8 : s.way.length = 8 := ok
 rw [Bool.eq_iff_iff, decide_eq_true_eq, ← replicate_iff]
 have hl : (s.way.drop d).length = 8 - d := by simp [h8]
 rw [hl]
 constructor
 ·intro h
  have h1 : s.way.take d ++ List.replicate (8 - d) 0 = s.way.take d ++ s.way.drop d := by rw [h, List.take_append_drop]
  exact (List.append_cancel_left h1).symm
 ·intro h
  rw [← h, List.take_append_drop]
theorem may_loop (K : Heap) (call : CallF) (Q : Option (V × Heap) → Prop) (k : List Item) (way : List Int) (h8 : way.length = 8) (v1 : V)
  (hyes : ∀ φ', Fr.get φ' 1 = v1.strip → (way.all fun w => decide (0 ≤ w)) = true → Q (M call k φ' K)) (hno : ∀ φ', (way.all fun w => decide (0 ≤ w)) = false → Fr.get φ' 2 = .bool false → Q (retK k φ' K)) :
  ∀ (j i : Nat) (φ : Fr), i + j = 8 → (way.all fun w => decide (0 ≤ w)) = ((way.drop i).all fun w => decide (0 ≤ w)) → Fr.get φ 1 = v1.strip → Fr.get φ 15 = .agg (way.map iv) → Fr.get φ 16 = iv i → Q (M call (.code l_site_may_0 :: .blk 0 :: k) φ K) := by
 intro j
 induction j with
 | zero =>
  intro i φ hi hX h1 h15 h16
  obtain rfl : i = 8 := by omega
  rw [List.drop_eq_nil_of_le (by omega)] at hX
  rw [l_site_may_0, M_loop]
  simp [b_site_may_0, h1, h15, h16]
  exact hyes _ (by simp [h1]) (by rw [hX]; rfl)
 | succ j ih =>
  intro i φ hi hX h1 h15 h16
  have hlt : i < way.length := by omega
  rw [List.drop_eq_getElem_cons hlt] at hX
  have e1 : (i : Int) < 8 := by omega
  have e2 : IntKind.i64.wrap ((i : Int) + 1) = ((i + 1 : Nat) : Int) := by rw [w64] <;> omega
  have e3 : way[i]? = some way[i] := List.getElem?_eq_getElem hlt
  rw [l_site_may_0, M_loop, ← l_site_may_0]
  by_cases a1 : way[i] < 0
  ·have a1' : ¬ 0 ≤ way[i] := by omega
   simp [b_site_may_0, h1, h15, h16, e1, e2, e3, a1]
   exact hno _ (by rw [hX, List.all_cons, decide_eq_false a1', Bool.false_and]) (by simp)
  ·have a1' : 0 ≤ way[i] := by omega
   simp [b_site_may_0, h1, h15, h16, e1, e2, e3, a1]
   exact ih (i + 1) _ (by omega) (by rw [hX, List.all_cons, decide_eq_true a1', Bool.true_and]) (by simp [h1]) (by simp [h15]) (by simp)
theorem eq8 (xs ys : List Int) (hx : xs.length = 8) (hy : ys.length = 8) : eqCells [.int .i64, .int .i64, .int .i64, .int .i64, .int .i64, .int .i64, .int .i64, .int .i64] (xs.map iv) (ys.map iv) = some (decide (xs = ys)) := eqCells_ints 8 .i64 xs ys hx hy
theorem setMany_len : ∀ (vs cs : List V) (off : Nat), (setMany cs off vs).length = cs.length
 | [], cs, off => rfl
 | v :: vs, cs, off => by simp [setMany, setMany_len vs]
theorem setMany_over (a cs : List V) : ∀ (vs : List V) , vs.length = cs.length → setMany (a ++ cs) a.length vs = a ++ vs := by
 intro vs h
 have := setMany_mid a cs vs [] h
 simpa using this
theorem setMany_self (cs vs : List V) (h : vs.length = cs.length) : setMany cs 0 vs = vs := by
 have := setMany_over [] cs vs h
 simpa using this
theorem h11 (s : Si) (ok : s.ok) : ∀ a b c d e f g h i j k : V, setMany [a, b, c, d, e, f, g, h, i, j, k] 0 s.cells = s.cells := fun a b c d e f g h i j k => setMany_self _ _ (by rw [Si.len ok]; rfl)
def Si.ints (s : Si) : List Int := s.kind :: s.part :: (s.way ++ [s.deep])
theorem Si.ways_strip (ok : s.ok) : List.map V.strip ((s.cells.drop 2).take 8) = s.way.map iv := by rw [Si.ways ok, map_iv_strip]
theorem Si.cut_strip (ok : s.ok) (d : Nat) (hd : d ≤ 8) : List.take 8 (List.drop 2 (List.map V.strip (setMany s.cells (2 + d) (zeroS (8 - d))))) = (s.way.take d ++ List.replicate (8 - d) 0).map iv := by
 rw [← List.map_drop, ← List.map_take, Si.cut ok d hd, map_iv_strip]
theorem may_eq (s : Si) (ok : s.ok) (H : Heap) : eval tbl noExt n_site_may [.agg s.cells] H = some (.bool s.may, H) := by
 have h8 : s.way.length = 8 := ok
 have hc := Si.c10 ok
 have hl := Si.len ok
 have hst := Si.strip (s := s)
 have hone := Si.one (s := s)
 have htk := Si.take ok
 have hw := Si.ways_strip ok
 have hself := h11 s ok
 have hcg : ∀ h : 10 < s.cells.length, s.cells[10] = iv s.deep := fun h => by
  have := hc
  rw [List.getElem?_eq_getElem h] at this
  exact Option.some.inj this
 rw [eval_M rfl rfl t_site_may rfl]
 unfold Si.may
 by_cases a1 : s.deep < 1
 ·have a1' : ¬ 1 ≤ s.deep := by omega
  simp [c_site_may, hc, a1, a1']
 ·have a1' : 1 ≤ s.deep := by omega
  by_cases a2 : 8 < s.deep
  ·have a2' : ¬ s.deep ≤ 8 := by omega
   simp [c_site_may, hc, a1, a2, a2']
  ·have a2' : s.deep ≤ 8 := by omega
   simp only [a1', a2', decide_true, Bool.true_and]
   obtain ⟨A, hA⟩ : ∃ A, A = ((s.way.all fun w => decide (0 ≤ w)) && ((s.way.drop s.deep.toNat).all fun w => decide (w = 0))) := ⟨_, rfl⟩
   rw [← hA]
   simp [c_site_may, hc, a1, a2, hw, hl, hcg]
   refine may_loop _ _ (fun r => r = some (V.bool A, H)) _ s.way h8 (.ptr H.length 0) ?_ ?_ 8 0 _ (by omega) rfl ?_ ?_ ?_
   ·intro φ' h1 hX
    rw [hA]
    obtain ⟨d, hd⟩ : ∃ d : Nat, s.deep = d := ⟨s.deep.toNat, by omega⟩
    have hd8 : d ≤ 8 := by omega
    have hdi : (d : Int) ≤ 8 := by omega
    have hdt : s.deep.toNat = d := by omega
    rw [hX, hdt, Bool.true_and]
    have hci := cut_iff (s := s) ok d hd8
    rw [← hci]
    have he := eq8 (s.way.take d ++ List.replicate (8 - d) 0) s.way (by simp [h8]; omega) h8
    have hun := fun n => Si.under (s := s) n
    by_cases a3 : d = 8
    ·subst a3
     have ht : s.way.take 8 = s.way := List.take_of_length_le (by omega)
     have he2 := eq8 s.way s.way h8 h8
     simp [r_site_may_0, h1, hc, hcg, hd, hl, hst, hone, htk, hw, hun, hself, ht, he2]
    ·have a3' : ¬ (8 = d) := by omega
     have e1 : 2 + d + (8 - d) ≤ 11 := by omega
     have hcs := Si.cut_strip (s := s) ok d hd8
     unfold zeroS at hcs
     obtain ⟨cw, hcw⟩ : ∃ cw, cw = s.way.take d ++ List.replicate (8 - d) 0 := ⟨_, rfl⟩
     rw [← hcw] at he hcs ⊢
     have hlen : (setMany s.cells (2 + d) (List.replicate (8 - d) (V.int .i64 0))).length = 11 := by rw [setMany_len, hl]
     simp [r_site_may_0, h1, hc, hcg, hd, hdi, hl, hst, hone, htk, hw, hun, hself, a3', e1, hcs, he, hlen]
   ·intro φ' hX h2
    rw [hA, hX, Bool.false_and]
    simp [h2]
   ·simp
   ·simp
   ·simp
def Sm.body : Sm → List Sm
 | .mk _ _ _ _ b _ _ => b
def Sm.els : Sm → List Sm
 | .mk _ _ _ _ _ c _ => c
def Sm.commit : Sm → Bool
 | .mk _ _ _ _ _ _ k => k
def Sm.exprs : Sm → List Ex
 | .mk _ _ _ e _ _ _ => e
def Ex.op : Ex → Int
 | .mk op _ _ _ => op
def Ex.text : Ex → List UInt8
 | .mk _ _ s _ => s
def Pg.blocks (p : Pg) : List (List Sm) := p.main :: p.procs.map (·.2)
def Sm.sub (x : Sm) (n : Int) : List Sm := if n % 2 = 1 then x.els else x.body
def leadTo : List Sm → Nat → List Int → List Sm
 | b, k, [] => b.drop k
 | b, k, n :: ws => match b[k]? with
  | none => []
  | some x => leadTo (x.sub n) (n / 2).toNat ws
def leadOf (p : Pg) (s : Si) : List Sm :=
 if 0 ≤ s.part ∧ s.part < p.blocks.length ∧ s.may = true then leadTo (p.blocks.getD s.part.toNat []) (s.way.getD 0 0).toNat ((s.way.take s.deep.toNat).drop 1) else []
theorem sparts_loop (call : CallF) (R : Option (V × Heap)) (n : Nat) (H : Heap) (p : Pg) (hl : p.procs.length ≤ 1000) (k : List Item)
  (hexit : ∀ φ' K, K.take n = H → n ≤ K.length → Fr.get φ' 3 = .own 1 (p.blocks.map brow) → M call k φ' K = R) :
  ∀ (j i : Nat) (φ : Fr) (K : Heap), i + j = p.procs.length → K.take n = H → n ≤ K.length → Fr.get φ 3 = .own 1 ((p.blocks.take (i + 1)).map brow) → Fr.get φ 10 = .sl 2 p.pcells → Fr.get φ 11 = .int .i64 p.procs.length → Fr.get φ 12 = .int .i64 i →
   M call (.code l_site_parts_0 :: .blk 0 :: k) φ K = R := by
 intro j
 induction j with
 | zero =>
  intro i φ K hi hK hn h3 h10 h11 h12
  have hlt : ¬ (i : Int) < p.procs.length := by omega
  have e : p.blocks.take (i + 1) = p.blocks := List.take_of_length_le (by simp [Pg.blocks]; omega)
  rw [e] at h3
  rw [l_site_parts_0, M_loop]
  simp [b_site_parts_0, h3, h10, h11, h12, hlt]
  exact hexit _ _ hK hn (by simp [h3])
 | succ j ih =>
  intro i φ K hi hK hn h3 h10 h11 h12
  have hlt : (i : Int) < p.procs.length := by omega
  have hltn : i < p.procs.length := by omega
  obtain ⟨e, he⟩ : ∃ e, p.procs[i]? = some e := ⟨_, List.getElem?_eq_getElem hltn⟩
  have hrow := Pg.prow he
  have hpl := p.pcells_len
  have e2 : IntKind.i64.wrap ((i : Int) + 1) = ((i + 1 : Nat) : Int) := by rw [w64] <;> omega
  have hb : p.blocks[i + 1]? = some e.2 := by simp [Pg.blocks, he]
  have hnext : (p.blocks.take (i + 1)).map brow ++ [[V.sl 7 (Sm.rows e.2)]] = (p.blocks.take (i + 1 + 1)).map brow := by
   rw [List.take_add_one (i := i + 1), hb]; simp [brow]
  obtain ⟨rows, hrows⟩ : ∃ rows, rows = (p.blocks.take (i + 1)).map brow := ⟨_, rfl⟩
  have hrl : rows.length = i + 1 := by rw [hrows]; simp [Pg.blocks]; omega
  rw [← hrows] at h3 hnext
  have hcap : 2 * (i + 1 + 1) * 24 ≤ 281474976710656 := by omega
  rw [l_site_parts_0, M_loop, ← l_site_parts_0]
  simp [b_site_parts_0, h3, h10, h11, h12, hlt, hrow, hpl, hrl, hcap, e2, get0, get1, set0, set1]
  refine ih (i + 1) _ _ (by omega) (take_more hK hn _) (by simp; omega) ?_ ?_ ?_ ?_ <;> simp [h10, h11, hnext]
theorem sparts_eq (p : Pg) (hl : p.procs.length ≤ 1000) (H : Heap) : eval tbl noExt n_site_parts [.agg p.cells] H = some (.own 1 (p.blocks.map brow), H) := by
 have hpl := p.pcells_len
 have hc : p.cells = [.sl 2 p.pcells, .sl 7 (Sm.rows p.main), .sl 7 (Sm.rows p.recover), .sl 5 p.ocells] := rfl
 rw [eval_M rfl rfl t_site_parts rfl]
 simp [c_site_parts, hc, hpl]
 refine sparts_loop _ _ H.length H p hl _ (fun φ' K hK hn h3 => by simp [r_site_parts_0, h3, hK]) p.procs.length 0 _ _ (by omega) (by simp) (by simp) ?_ ?_ ?_ ?_ <;> simp [Pg.blocks, brow]
theorem bit_and {n : Int} (h0 : 0 ≤ n) (hn : n < 9223372036854775808) : IntKind.i64.wrap ↑((n % 2 ^ IntKind.i64.bits).toNat &&& 1 % 2 ^ IntKind.i64.bits) = n % 2 := by
 have e : (2 : Int) ^ IntKind.i64.bits = 18446744073709551616 := by decide
 have e' : (1 : Nat) % 2 ^ IntKind.i64.bits = 1 := by decide
 rw [e, e', Nat.and_one_is_mod, w64] <;> omega
theorem snext_eq (x : Sm) (n : Int) (h0 : 0 ≤ n) (hn : n < 9223372036854775808) (H : Heap) : eval tbl noExt n_site_next [.agg x.cells, iv n] H = some (.tup [.sl 7 (Sm.rows (x.sub n)), iv (n / 2)], H) := by
 obtain ⟨op, s, w, e, b, c, g⟩ := x
 have ha := bit_and h0 hn
 have hm : min 1 IntKind.i64.bits = 1 := by decide
 have hf : n.fdiv 2 = n / 2 := Int.fdiv_eq_ediv_of_nonneg _ (by omega)
 rw [eval_M rfl rfl t_site_next rfl]
 unfold Sm.sub
 by_cases h : n % 2 = 1
 ·simp [c_site_next, Sm.cells, h, Sm.els, Sm.body, ha, hm, hf]
 ·simp [c_site_next, Sm.cells, h, Sm.els, Sm.body, ha, hm, hf]
def Si.fit (s : Si) : Prop := s.ok ∧ Fit s.kind ∧ Fit s.part ∧ (∀ w ∈ s.way, Fit w) ∧ Fit s.deep
theorem site_of {P : Program} {t tI tA : TypeId} {fs : Array Field} {vs : List V} (h : Ty P t vs) (hu : P.underlying t = some (.struct fs)) (hf : fs.toList.map (·.type) = [tI, tI, tA, tI]) (hI : P.underlying tI = some (.int .i64)) (hA : P.underlying tA = some (.array 8 tI)) :
  ∃ s : Si, vs = s.cells ∧ s.ok ∧ Fit s.kind ∧ Fit s.part ∧ (∀ w ∈ s.way, Fit w) ∧ Fit s.deep := by
 obtain ⟨parts, rfl, hL⟩ := Ty_struct_of h hu
 rw [hf] at hL
 obtain ⟨p, q, r, u, rfl, h0, h1, h2, h3⟩ := TyL_4 hL
 obtain ⟨a, rfl, w0⟩ := Ty_int_of h0 hI
 obtain ⟨b, rfl, w1⟩ := Ty_int_of h1 hI
 obtain ⟨d, rfl, w3⟩ := Ty_int_of h3 hI
 obtain ⟨ps, rfl, hl, hp⟩ := Ty_arr_of h2 hA
 obtain ⟨l, e1, e2, e3⟩ := ints_of hI hp
 refine ⟨⟨a, b, l, d⟩, ?_, by show l.length = 8; omega, w0, w1, e3, w3⟩
 simp only [List.flatten_cons, List.flatten_nil, e1, Si.cells]
 rfl
theorem fit_range {n : Int} (h : Fit n) : -9223372036854775808 ≤ n ∧ n < 9223372036854775808 := by
 have h' : (Lit.int .i64 n).wf = true := h
 simp [Lit.wf] at h'
 have hm : IntKind.i64.min = -9223372036854775808 := by decide
 rw [hm] at h'
 omega
theorem leadTo_none {b : List Sm} {k : Nat} (h : b.length ≤ k) (ws : List Int) : leadTo b k ws = [] := by
 cases ws with
 | nil => rw [leadTo, List.drop_eq_nil_of_le h]
 | cons n ws => rw [leadTo, List.getElem?_eq_none h]
theorem leadTo_some {b : List Sm} {k : Nat} {x : Sm} (h : b[k]? = some x) (n : Int) (ws : List Int) : leadTo b k (n :: ws) = leadTo (x.sub n) (n / 2).toNat ws := by
 rw [leadTo, h]
theorem Sm.rows_drop (b : List Sm) (k : Nat) : (Sm.rows b).drop k = Sm.rows (b.drop k) := by simp [Sm.rows_eq, List.map_drop]
theorem slead_loop (s : Si) (ok : s.ok) (K : Heap) (q : Nat) (hq : K[q]? = some (some s.cells)) (d : Nat) (h1d : 1 ≤ d) (hd8 : d ≤ 8) (hpos : ∀ w ∈ s.way, 0 ≤ w) (hfit : ∀ w ∈ s.way, Fit w) (Q : Option (V × Heap) → Prop) (k : List Item) (X : List Sm)
  (hexit : ∀ φ' (b : List Sm) (u : Int), 0 ≤ u → b.drop u.toNat = X → Fr.get φ' 6 = .sl 7 (Sm.rows b) → Fr.get φ' 7 = iv u → Q (M (eval tbl noExt) k φ' K)) (hno : ∀ φ', X = [] → Fr.get φ' 4 = .own 7 [] → Q (retK k φ' K)) :
  ∀ (j i : Nat) (φ : Fr) (b : List Sm) (u : Int), i + j = d - 1 → 0 ≤ u → leadTo b u.toNat (((s.way.take d).drop 1).drop i) = X → Fr.get φ 6 = .sl 7 (Sm.rows b) → Fr.get φ 7 = iv u → Fr.get φ 38 = .ms q 3 (d - 1) 7 → Fr.get φ 39 = iv ((d - 1 : Nat) : Int) → Fr.get φ 40 = iv i →
   Q (M (eval tbl noExt) (.code l_site_lead_0 :: .blk 0 :: k) φ K) := by
 have h8 : s.way.length = 8 := ok
 have hln : ((s.way.take d).drop 1).length = d - 1 := by simp [h8]; omega
 intro j
 induction j with
 | zero =>
  intro i φ b u hi hu hX h6 h7 h38 h39 h40
  have hlt : ¬ (i : Int) < ((d - 1 : Nat) : Int) := by omega
  rw [List.drop_eq_nil_of_le (by omega), leadTo] at hX
  rw [l_site_lead_0, M_loop]
  simp [b_site_lead_0, h6, h7, h38, h39, h40, hlt]
  exact hexit _ b u hu hX (by simp [h6]) (by simp [h7])
 | succ j ih =>
  intro i φ b u hi hu hX h6 h7 h38 h39 h40
  have hlt : i < ((s.way.take d).drop 1).length := by omega
  obtain ⟨n, hn⟩ : ∃ n, n = ((s.way.take d).drop 1)[i] := ⟨_, rfl⟩
  have hn' : s.way[1 + i]? = some n := by
   rw [hn, List.getElem_drop, List.getElem_take]
   exact List.getElem?_eq_getElem (by omega)
  have hmem : n ∈ s.way := List.mem_of_getElem? hn'
  have hn0 := hpos n hmem
  have hnf := fit_range (hfit n hmem)
  rw [List.drop_eq_getElem_cons hlt, ← hn] at hX
  have hw := Si.cw (s := s) (i := 1 + i) (w := n) hn'
  rw [show 2 + (1 + i) = 3 + i by omega] at hw
  have e1 : (i : Int) < ((d - 1 : Nat) : Int) := by omega
  have e2 : IntKind.i64.wrap ((i : Int) + 1) = ((i + 1 : Nat) : Int) := by rw [w64] <;> omega
  have hrl := Sm.rows_len b
  rw [l_site_lead_0, M_loop, ← l_site_lead_0]
  by_cases a1 : (b.length : Int) ≤ u
  ·rw [leadTo_none (by omega)] at hX
   simp [b_site_lead_0, h6, h7, h38, h39, h40, hq, hw, e1, e2, a1, hrl]
   exact hno _ hX.symm (by simp)
  ·have hul : u.toNat < b.length := by omega
   obtain ⟨x, hx⟩ : ∃ x, b[u.toNat]? = some x := ⟨_, List.getElem?_eq_getElem hul⟩
   have hrow := Sm.rows_at hx
   rw [leadTo_some hx] at hX
   have hnx := snext_eq x n hn0 hnf.2 []
   have hu' : u < b.length := by omega
   have hul2 : u.toNat < (Sm.rows b).length := by omega
   have hrow2 : ∀ h : u.toNat < (Sm.rows b).length, (Sm.rows b)[u.toNat] = x.cells := fun h => by
    rw [List.getElem?_eq_getElem h] at hrow; exact Option.some.inj hrow
   obtain ⟨a0, a1', a2, a3, a4, a5, a6, hcs⟩ := Sm.cells_shape x
   rw [hcs] at hnx hrow hrow2
   simp [b_site_lead_0, h6, h7, h38, h39, h40, hq, hw, e1, e2, a1, hrl, hrow, hrow2, hul, hul2, hu, hu', hnx]
   refine ih (i + 1) _ (x.sub n) (n / 2) (by omega) (by omega) hX ?_ ?_ ?_ ?_ ?_ <;> simp [h38, h39]
theorem Pg.blocks_len (p : Pg) : p.blocks.length = p.procs.length + 1 := by simp [Pg.blocks]
theorem Si.c2 (s : Si) (ok : s.ok) : s.cells[2]? = some (iv (s.way.getD 0 0)) := by
 have h8 : s.way.length = 8 := ok
 have : s.way[0]? = some (s.way.getD 0 0) := by
  rw [List.getD_eq_getElem?_getD, List.getElem?_eq_getElem (by omega)]; rfl
 exact Si.cw this
theorem may_all {s : Si} (h : s.may = true) : 1 ≤ s.deep ∧ s.deep ≤ 8 ∧ ∀ w ∈ s.way, 0 ≤ w := by
 unfold Si.may at h
 simp only [Bool.and_eq_true, decide_eq_true_eq, List.all_eq_true] at h
 exact ⟨h.1, h.2.1, h.2.2.1⟩
theorem getD_mem {l : List Int} (h : 0 < l.length) : l.getD 0 0 ∈ l := by
 match l, h with
 | a :: _, _ => simp
def Led (r : V) (X : List Sm) : Prop := r = .sl 7 (Sm.rows X) ∨ r = .own 7 [] ∧ X = []
theorem slead_eq (p : Pg) (hp : p.procs.length ≤ 1000) (s : Si) (hf : s.fit) : ∃ r, Led r (leadOf p s) ∧ eval tbl noExt n_site_lead [.agg p.cells, .agg s.cells] [] = some (r, []) := by
 have ok := hf.1
 have h8 : s.way.length = 8 := ok
 have hcp : p.cells.length = 4 := rfl
 have hcpt : p.cells.take 4 = p.cells := rfl
 have hcps : p.cells.map V.strip = p.cells := rfl
 have hcpu : ∀ n, V.underAll n p.cells = true := fun n => rfl
 have hcpo : p.cells.all V.one = true := rfl
 have hparts := sparts_eq p hp []
 have hbl := p.blocks_len
 have c1 := Si.c1 (s := s)
 have c2 := Si.c2 s ok
 have c10 := Si.c10 ok
 have q1 := Si.len ok
 have q3 := Si.strip (s := s)
 have q5 := Si.take ok
 have qu := fun n => Si.under (s := s) n
 have g1 : ∀ h : 1 < s.cells.length, s.cells[1] = iv s.part := fun h => rfl
 have g2 : ∀ h : 2 < s.cells.length, s.cells[2] = iv (s.way.getD 0 0) := fun h => by
  rw [List.getElem?_eq_getElem h] at c2; exact Option.some.inj c2
 have g10 : ∀ h : 10 < s.cells.length, s.cells[10] = iv s.deep := fun h => by
  rw [List.getElem?_eq_getElem h] at c10; exact Option.some.inj c10
 have hmay := may_eq s ok []
 rw [eval_M rfl rfl t_site_lead rfl]
 unfold leadOf
 by_cases a1 : s.part < 0
 ·rw [if_neg (fun h => by omega)]
  refine ⟨.own 7 [], .inr ⟨rfl, rfl⟩, ?_⟩
  simp [c_site_lead, hcp, hcpt, hcps, hcpu, hcpo, hparts, c1, g1, q1, a1]
 ·by_cases a2 : (p.blocks.length : Int) ≤ s.part
  ·rw [if_neg (fun h => by omega)]
   refine ⟨.own 7 [], .inr ⟨rfl, rfl⟩, ?_⟩
   simp [c_site_lead, hcp, hcpt, hcps, hcpu, hcpo, hparts, c1, g1, q1, a1, a2]
  ·cases a3 : s.may with
   | false =>
    rw [if_neg (fun h => by simp at h)]
    rw [a3] at hmay
    refine ⟨.own 7 [], .inr ⟨rfl, rfl⟩, ?_⟩
    simp [c_site_lead, hcp, hcpt, hcps, hcpu, hcpo, hparts, c1, g1, q1, q3, q5, qu, a1, a2, hmay]
   | true =>
    rw [if_pos ⟨by omega, by omega, rfl⟩]
    rw [a3] at hmay
    obtain ⟨d1, d8, hpos⟩ := may_all a3
    obtain ⟨d, hd⟩ : ∃ d : Nat, s.deep = d := ⟨s.deep.toNat, by omega⟩
    have hdt : s.deep.toNat = d := by omega
    rw [hdt]
    obtain ⟨pn, hpn⟩ : ∃ pn : Nat, s.part = pn := ⟨s.part.toNat, by omega⟩
    have hpt : s.part.toNat = pn := by omega
    rw [hpt]
    have hlt : pn < p.blocks.length := by omega
    obtain ⟨b, hb⟩ : ∃ b, b = p.blocks.getD pn [] := ⟨_, rfl⟩
    have hgb : ∀ h : pn < p.blocks.length, p.blocks[pn] = b := fun h => by rw [hb, List.getD_eq_getElem?_getD, List.getElem?_eq_getElem h]; rfl
    rw [← hb]
    obtain ⟨u, hu⟩ : ∃ u, u = s.way.getD 0 0 := ⟨_, rfl⟩
    have hw0 : 0 ≤ u := by rw [hu]; exact hpos _ (getD_mem (by omega))
    rw [← hu] at c2 g2 ⊢
    obtain ⟨X, hX⟩ : ∃ X, X = leadTo b u.toNat ((s.way.take d).drop 1) := ⟨_, rfl⟩
    rw [← hX]
    rw [hpn] at c1 g1 a1 a2
    rw [hd] at c10 g10
    have e1 : (1 : Int) ≤ d := by omega
    have e8 : (d : Int) ≤ 8 := by omega
    have e9 : d ≤ 8 := by omega
    have e10 : 1 ≤ d := by omega
    simp [c_site_lead, hcp, hcpt, hcps, hcpu, hcpo, hparts, c1, g1, c2, g2, c10, g10, q1, q3, q5, qu, a1, a2, hmay, hgb, hlt, brow, e1, e8, e9, e10]
    refine slead_loop s ok _ 1 rfl d e10 e9 hpos hf.2.2.2.1 (fun out => ∃ r, Led r X ∧ out = some (r, [])) _ X ?_ ?_ (d - 1) 0 _ b u (by omega) hw0 (by rw [hX]; rfl) ?_ ?_ ?_ ?_ ?_
    ·intro φ' b' v hv hb' h6 h7
     have hrl := Sm.rows_len b'
     have m1 : 0 ≤ min v (b'.length : Int) ∧ min v (b'.length : Int) ≤ b'.length := by omega
     have m2 : (Sm.rows b').take b'.length = Sm.rows b' := List.take_of_length_le (by omega)
     have m3 : (Sm.rows b').drop (min v (b'.length : Int)).toNat = Sm.rows X := by
      rw [Sm.rows_drop, ← hb']
      by_cases h : v ≤ b'.length
      ·rw [Int.min_eq_left h]
      ·rw [Int.min_eq_right (by omega), List.drop_eq_nil_of_le (by omega), List.drop_eq_nil_of_le (by omega)]
     simp [r_site_lead_0, h6, h7, hrl, m1, m2, m3]
     exact .inl rfl
    ·intro φ' hX' h4
     simp [h4]
     exact .inr ⟨rfl, hX'⟩
    all_goals simp
set_option maxHeartbeats 2000000
def Sm.writes (x : Sm) : Bool := decide (x.op = 3) || decide (x.op = 4)
def lastText (l : List Ex) : Bool := match l.getLast? with
 | some e => decide (e.op = 2) && decide ((1 : Int) < e.text.length)
 | none => false
def Sm.torn (x : Sm) : Bool := x.writes && lastText x.exprs
def nextWrites : List Sm → Bool
 | y :: _ => y.writes
 | [] => false
def fitsOf (kind : Int) : List Sm → Bool
 | [] => false
 | x :: r =>
  if kind = 1 then decide (x.op = 8) || decide (x.op = 9) else if kind = 2 then decide (x.op = 8) else if kind = 3 then decide (x.op = 10) else if kind = 4 then decide (x.op = 11)
  else if kind = 5 then x.writes && nextWrites r else if kind = 6 then decide (x.op = 16) && x.commit else if kind = 7 then x.torn else if kind = 8 then x.writes else false
theorem fitsOf_cons (kind : Int) (x : Sm) (r : List Sm) : fitsOf kind (x :: r) = if kind = 1 then decide (x.op = 8) || decide (x.op = 9) else if kind = 2 then decide (x.op = 8) else if kind = 3 then decide (x.op = 10) else if kind = 4 then decide (x.op = 11)
  else if kind = 5 then x.writes && nextWrites r else if kind = 6 then decide (x.op = 16) && x.commit else if kind = 7 then x.torn else if kind = 8 then x.writes else false := rfl
theorem swrites_eq (x : Sm) (H : Heap) : eval tbl noExt n_site_writes [.agg x.cells] H = some (.bool x.writes, H) := by
 obtain ⟨op, s, w, e, b, c, g⟩ := x
 rw [eval_M rfl rfl t_site_writes rfl]
 unfold Sm.writes Sm.op
 by_cases a1 : op = 3
 ·simp [c_site_writes, Sm.cells, a1]
 ·simp [c_site_writes, Sm.cells, a1]
theorem last_cases (l : List Ex) : l = [] ∨ ∃ (m : Nat) (e : Ex), l.length = m + 1 ∧ l[m]? = some e ∧ l.getLast? = some e := by
 rcases List.eq_nil_or_concat l with h | ⟨i, e, h⟩
 ·exact .inl h
 ·subst h
  refine .inr ⟨i.length, e, by simp, by simp, by simp⟩
theorem torn_eq (x : Sm) (hx : x.exprs.length ≤ 1000) (H : Heap) : eval tbl noExt n_site_torn [.agg x.cells] H = some (.bool x.torn, H) := by
 have hw := swrites_eq x []
 obtain ⟨op, s, w, l, b, c, g⟩ := x
 simp only [Sm.exprs] at hx
 rw [eval_M rfl rfl t_site_torn rfl]
 have hcl := Ex.rows_len l
 unfold Sm.torn
 cases hb : Sm.writes (.mk op s w l b c g) with
 | false =>
  rw [hb] at hw
  simp only [Sm.cells] at hw
  simp [c_site_torn, Sm.cells, hw]
 | true =>
  rw [hb] at hw
  simp only [Sm.cells] at hw
  rcases last_cases l with h | ⟨m, e, h1, h2, h3⟩
  ·subst h
   simp only [Ex.rows] at hw
   simp [c_site_torn, Sm.cells, hw, Ex.rows, lastText, Sm.exprs]
  ·have hrow := Ex.rows_at h2
   have hm : m < (Ex.rows l).length := by omega
   have hrow2 : ∀ h : m < (Ex.rows l).length, (Ex.rows l)[m] = e.cells := fun h => by
    rw [List.getElem?_eq_getElem h] at hrow; exact Option.some.inj hrow
   have e0 : ¬ (l.length : Int) = 0 := by omega
   have e0' : l ≠ [] := by intro h; subst h; simp at h1
   have e1 : IntKind.i64.wrap ((l.length : Int) - 1) = (m : Int) := by rw [w64] <;> omega
   have e2 : (m : Int) < l.length := by omega
   have e3 : m < l.length := by omega
   have hlt : lastText l = (decide (e.op = 2) && decide ((1 : Int) < e.text.length)) := by unfold lastText; rw [h3]
   simp only [Sm.exprs, Bool.true_and, hlt]
   obtain ⟨eo, en, es, ex⟩ := e
   simp only [Ex.cells] at hrow hrow2
   simp only [Ex.op, Ex.text]
   by_cases a1 : eo = 2
   ·simp [c_site_torn, Sm.cells, hw, hcl, hrow, hrow2, hm, e0, e0', e1, e2, e3, a1]
    rfl
   ·simp [c_site_torn, Sm.cells, hw, hcl, hrow, hrow2, hm, e0, e0', e1, e2, e3, a1]
theorem fits_eq (kind : Int) (l : List Sm) (hl : ∀ x ∈ l, x.exprs.length ≤ 1000) (H : Heap) : eval tbl noExt n_site_fits [iv kind, .sl 7 (Sm.rows l)] H = some (.bool (fitsOf kind l), H) := by
 rw [eval_M rfl rfl t_site_fits rfl]
 have hrl := Sm.rows_len l
 match l, hl, hrl with
 | [], _, _ => simp [c_site_fits, Sm.rows, fitsOf] <;> rfl
 | x :: r, hl, hrl =>
  have hw := swrites_eq x []
  have ht := torn_eq x (hl x (by simp)) []
  obtain ⟨op, s, w, e, b, c, g⟩ := x
  simp only [Sm.rows, Sm.cells] at hw ht hrl ⊢
  simp only [List.length_cons] at hrl
  have hrl' : (Sm.rows r).length = r.length := Sm.rows_len r
  have z : ¬ ((Sm.rows r).length : Int) + 1 = 0 := by omega
  have z0 : (0 : Int) < ((Sm.rows r).length : Int) + 1 := by omega
  rw [fitsOf_cons]
  by_cases k1 : kind = 1
  ·rw [if_pos k1]
   by_cases a1 : op = 8
   ·simp [c_site_fits, z, z0, k1, a1, Sm.op] <;> rfl
   ·simp [c_site_fits, z, z0, k1, a1, Sm.op] <;> rfl
  rw [if_neg k1]
  by_cases k2 : kind = 2
  ·rw [if_pos k2]; simp [c_site_fits, z, z0, k2, Sm.op] <;> rfl
  rw [if_neg k2]
  by_cases k3 : kind = 3
  ·rw [if_pos k3]; simp [c_site_fits, z, z0, k3, Sm.op] <;> rfl
  rw [if_neg k3]
  by_cases k4 : kind = 4
  ·rw [if_pos k4]; simp [c_site_fits, z, z0, k4, Sm.op] <;> rfl
  rw [if_neg k4]
  by_cases k5 : kind = 5
  ·rw [if_pos k5]
   cases hb : Sm.writes (.mk op s w e b c g) with
   | false =>
    rw [hb] at hw
    simp [c_site_fits, z, z0, k5, hw] <;> rfl
   | true =>
    rw [hb] at hw
    match r, hl, hrl, hrl' with
    | [], _, _, _ => simp [c_site_fits, k5, hw, Sm.rows, nextWrites] <;> rfl
    | y :: r2, hl, hrl, hrl' =>
     have hw2 := swrites_eq y []
     have z2 : ¬ (r2.length : Int) + 1 + 1 = 0 := by omega
     have z3 : (0 : Int) < (r2.length : Int) + 1 + 1 := by omega
     have d1 : (0 : Int) < (r2.length : Int) + 1 := by omega
     have d2 : (1 : Int) < (r2.length : Int) + 1 + 1 := by omega
     have hrl2 := Sm.rows_len r2
     obtain ⟨a0, a1', a2, a3, a4, a5, a6, hcs⟩ := Sm.cells_shape y
     rw [hcs] at hw2
     simp [c_site_fits, k5, hw, hw2, Sm.rows, nextWrites, z2, z3, d1, d2, hcs, hrl2] <;> rfl
  rw [if_neg k5]
  by_cases k6 : kind = 6
  ·rw [if_pos k6]
   by_cases a1 : op = 16
   ·simp [c_site_fits, z, z0, k6, a1, Sm.op, Sm.commit] <;> rfl
   ·simp [c_site_fits, z, z0, k6, a1, Sm.op, Sm.commit] <;> rfl
  rw [if_neg k6]
  by_cases k7 : kind = 7
  ·rw [if_pos k7]; simp [c_site_fits, z, z0, k7, ht] <;> rfl
  rw [if_neg k7]
  by_cases k8 : kind = 8
  ·rw [if_pos k8]; simp [c_site_fits, z, z0, k8, hw] <;> rfl
  rw [if_neg k8]
  simp [c_site_fits, z, z0, k1, k2, k3, k4, k5, k6, k7, k8] <;> rfl
theorem sub_sizes (x : Sm) (n : Int) : Sm.sizes (x.sub n) ≤ x.size := by
 obtain ⟨op, s, w, e, b, c, g⟩ := x
 unfold Sm.sub Sm.els Sm.body
 simp only [Sm.size]
 split <;> omega
theorem drop_sizes (b : List Sm) (k : Nat) : Sm.sizes (b.drop k) ≤ Sm.sizes b := by
 have h := sizes_append (b.take k) (b.drop k)
 rw [List.take_append_drop] at h
 omega
theorem leadTo_sizes : ∀ (ws : List Int) (b : List Sm) (k : Nat), Sm.sizes (leadTo b k ws) ≤ Sm.sizes b
 | [], b, k => by rw [leadTo]; exact drop_sizes b k
 | n :: ws, b, k => by
  rw [leadTo]
  split
  ·simp [Sm.sizes]
  ·rename_i x hx
   have h1 := leadTo_sizes ws (x.sub n) (n / 2).toNat
   have h2 := sub_sizes x n
   have h3 := Sm.sizes_mem (List.mem_of_getElem? hx)
   omega
theorem block_sizes {p : Pg} (hp : p.size ≤ 1000) {b : List Sm} (h : b ∈ p.blocks) : Sm.sizes b ≤ 1000 := by
 have h1 := p.parts_size
 have h2 : b ∈ p.parts := by
  unfold Pg.blocks at h
  unfold Pg.parts
  rcases List.mem_cons.1 h with rfl | h
  ·simp
  ·exact List.mem_append_left _ h
 have := sizes_flatten h2
 omega
theorem procs_len {p : Pg} (hp : p.size ≤ 1000) : p.procs.length ≤ 1000 := by
 have h1 := p.parts_size
 omega
theorem leadOf_sizes {p : Pg} (hp : p.size ≤ 1000) (s : Si) : Sm.sizes (leadOf p s) ≤ 1000 := by
 unfold leadOf
 split
 ·rename_i h
  refine Nat.le_trans (leadTo_sizes _ _ _) (block_sizes hp ?_)
  have hlt : s.part.toNat < p.blocks.length := by omega
  rw [List.getD_eq_getElem?_getD, List.getElem?_eq_getElem hlt]
  exact List.getElem_mem _
 ·simp [Sm.sizes]
theorem exprs_len {l : List Sm} (h : Sm.sizes l ≤ 1000) : ∀ x ∈ l, x.exprs.length ≤ 1000 := by
 intro x hx
 have h1 := Sm.sizes_mem hx
 obtain ⟨op, s, w, e, b, c, g⟩ := x
 have h2 := Ex.sizes_ge e
 simp only [Sm.size] at h1
 simp only [Sm.exprs]
 omega
theorem Fits_eq (p : Pg) (hp : p.size ≤ 1000) (s : Si) (hf : s.fit) : eval tbl noExt n_site_Fits [.agg p.cells, .agg s.cells] [] = some (.bool (fitsOf s.kind (leadOf p s)), []) := by
 obtain ⟨r, hr, hl⟩ := slead_eq p (procs_len hp) s hf
 have hF := fits_eq s.kind (leadOf p s) (exprs_len (leadOf_sizes hp s)) []
 have ok := hf.1
 have hcp : p.cells.length = 4 := rfl
 have hcpt : p.cells.take 4 = p.cells := rfl
 have hcps : p.cells.map V.strip = p.cells := rfl
 have hcpu : ∀ n, V.underAll n p.cells = true := fun n => rfl
 have c0 := Si.c0 (s := s)
 have q1 := Si.len ok
 have q3 := Si.strip (s := s)
 have q5 := Si.take ok
 have qu := fun n => Si.under (s := s) n
 have g0 : ∀ h : 0 < s.cells.length, s.cells[0] = iv s.kind := fun h => rfl
 rw [eval_M rfl rfl t_site_Fits rfl]
 rcases hr with rfl | ⟨rfl, hX⟩
 ·simp [c_site_Fits, hcp, hcpt, hcps, hcpu, hl, hF, c0, g0, q1, q3, q5, qu]
 ·rw [hX] at hF ⊢
  simp only [Sm.rows] at hF
  simp [c_site_Fits, hcp, hcpt, hcps, hcpu, hl, hF, c0, g0, q1, q3, q5, qu]
def zeroSm : Sm := .mk 0 [] 0 [] [] [] false
def headOf (X : List Sm) : Sm := X.headD zeroSm
theorem procE : eval tbl noExt n_tree_each_api_Proc [.sl 2 [], .fn (.func n_tree_Clone_1) [] []] [] = some (.own 2 [], []) := (eval_iff ..).2 ⟨50, by kernel_rfl⟩
theorem oraE : eval tbl noExt n_tree_each_api_Oracle [.sl 5 [], .fn (.func n_tree_Clone_2) [] []] [] = some (.own 5 [], []) := (eval_iff ..).2 ⟨50, by kernel_rfl⟩
theorem clone1_eq (x : Sm) (hx : x.size ≤ 1000) : eval tbl noExt n_tree_Clone [.agg [.sl 2 [], .sl 7 [x.cells], .sl 7 [], .sl 5 []]] [] = some (.agg [.sl 2 [], .sl 7 [x.cells], .sl 7 [], .sl 5 []], []) := by
 have h1 := each_stmt_eq [x] (by simp) (fun e he K => cloned_eq 1000 e (by simp at he; subst he; exact hx) (by omega) K) []
 have h2 := each_stmt_eq [] (by simp) (fun e he K => by simp at he) []
 have h3 := procE
 have h4 := oraE
 simp only [Sm.rows] at h1 h2
 rw [eval_M rfl rfl t_tree_Clone rfl]
 simp [c_tree_Clone, h1, h2, h3, h4]
theorem At_eq (p : Pg) (hp : p.size ≤ 1000) (s : Si) (hf : s.fit) : eval tbl noExt n_site_At [.agg p.cells, .agg s.cells] [] = some (.tup [.agg (headOf (leadOf p s)).cells, .bool (!(leadOf p s).isEmpty)], []) := by
 obtain ⟨r, hr, hl⟩ := slead_eq p (procs_len hp) s hf
 have hsz := leadOf_sizes hp s
 obtain ⟨X, hX⟩ : ∃ X, X = leadOf p s := ⟨_, rfl⟩
 rw [← hX] at hr hsz ⊢
 have ok := hf.1
 have hcp : p.cells.length = 4 := rfl
 have hcpt : p.cells.take 4 = p.cells := rfl
 have hcps : p.cells.map V.strip = p.cells := rfl
 have hcpu : ∀ n, V.underAll n p.cells = true := fun n => rfl
 have q1 := Si.len ok
 have q3 := Si.strip (s := s)
 have q5 := Si.take ok
 have qu := fun n => Si.under (s := s) n
 rw [eval_M rfl rfl t_site_At rfl]
 have hnil : X = [] → r = .sl 7 [] ∨ r = .own 7 [] := fun h => by
  subst h
  rcases hr with h | h
  ·exact .inl (by simpa [Sm.rows] using h)
  ·exact .inr h.1
 match X, hr, hsz, hnil with
 | [], hr, hsz, hnil =>
  rcases hnil rfl with rfl | rfl
  ·simp [c_site_At, hcp, hcpt, hcps, hcpu, hl, q1, q3, q5, qu, headOf, zeroSm, Sm.cells, Sm.rows, Ex.rows]
  ·simp [c_site_At, hcp, hcpt, hcps, hcpu, hl, q1, q3, q5, qu, headOf, zeroSm, Sm.cells, Sm.rows, Ex.rows]
 | x :: X, hr, hsz, _ =>
  have hr' : r = .sl 7 (x.cells :: Sm.rows X) := by
   rcases hr with h | h
   ·simpa [Sm.rows] using h
   ·exact absurd h.2 (by simp)
  subst hr'
  simp only [Sm.sizes] at hsz
  have hc := clone1_eq x (by omega)
  have hrl := Sm.rows_len X
  have z : ¬ ((Sm.rows X).length : Int) + 1 = 0 := by omega
  have z1 : ¬ (X.length : Int) + 1 = 0 := by omega
  have z2 : (1 : Int) ≤ (X.length : Int) + 1 := by omega
  have z3 : (1 : Int) ≤ ((Sm.rows X).length : Int) + 1 := by omega
  obtain ⟨a0, a1', a2, a3, a4, a5, a6, hcs⟩ := Sm.cells_shape x
  have hh : (headOf (x :: X)).cells = x.cells := rfl
  rw [hh]
  rw [hcs] at hl hc ⊢
  simp [c_site_At, hcp, hcpt, hcps, hcpu, hl, q1, q3, q5, qu, hc, z, z1, z2, z3]
set_option maxHeartbeats 1000000
variable {s : Si}
set_option maxHeartbeats 2000000
end Go.AM.Spec
