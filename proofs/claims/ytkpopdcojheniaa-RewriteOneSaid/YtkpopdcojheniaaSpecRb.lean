/-
 The parts of this proof that speak of the functions one by one.
-/
import Derived.Test.YtkpopdcojheniaaSpecSi
import Derived.Test.YtkpopdcojheniaaSpecTr
import Derived.Test.YtkpopdcojheniaaSpecRa
namespace Go.AM.Spec
set_option linter.unusedVariables false
set_option linter.unusedSimpArgs false
set_option maxHeartbeats 2000000
set_option maxRecDepth 10000
def ahN : List Sm → Nat → List Int → Nat
 | b, k, [] => (Sm.flats (b.take k)).length
 | b, k, n :: ws => match b[k]? with
  | none => 0
  | some x => (Sm.flats (b.take k)).length + 1 + (if n % 2 = 1 then (Sm.flats x.body).length else 0) + ahN (x.sub n) (n / 2).toNat ws
theorem ahN_some {b : List Sm} {k : Nat} {x : Sm} (h : b[k]? = some x) (n : Int) (ws : List Int) : ahN b k (n :: ws) = (Sm.flats (b.take k)).length + 1 + (if n % 2 = 1 then (Sm.flats x.body).length else 0) + ahN (x.sub n) (n / 2).toNat ws := by
 rw [ahN, h]
theorem take_sizes {l : List Sm} {k : Nat} {x : Sm} (h : l[k]? = some x) : Sm.sizes (l.take k) + x.size ≤ Sm.sizes l := by
 obtain ⟨A, B, rfl, hA⟩ := split_row h
 rw [List.take_left' hA]
 simp only [sizes_append, Sm.sizes]; omega
theorem take_le (l : List Sm) (k : Nat) : Sm.sizes (l.take k) ≤ Sm.sizes l := by
 have := sizes_append (l.take k) (l.drop k)
 rw [List.take_append_drop] at this; omega
theorem ahN_le : ∀ (ws : List Int) (l : List Sm) (k : Nat), ahN l k ws ≤ Sm.sizes l
 | [], l, k => by
  have := Sm.flats_sizes (l.take k)
  have := take_le l k
  rw [ahN]; omega
 | n :: ws, l, k => by
  cases hx : l[k]? with
  | none => rw [ahN, hx]; exact Nat.zero_le _
  | some x =>
   rw [ahN_some hx]
   have h1 := take_sizes hx
   have h2 := Sm.flats_sizes (l.take k)
   have h3 := ahN_le ws (x.sub n) (n / 2).toNat
   obtain ⟨op, s, m, xe, xb, xc, g⟩ := x
   have h4 := Sm.flats_sizes xb
   simp only [Sm.size] at h1
   by_cases h : n % 2 = 1
   ·simp only [Sm.sub, h, if_true, Sm.els, Sm.body] at h3 ⊢; omega
   ·simp only [Sm.sub, h, if_false, Sm.els, Sm.body] at h3 ⊢; omega
theorem Sm.rows_take (l : List Sm) (k : Nat) : (Sm.rows l).take k = Sm.rows (l.take k) := by simp [Sm.rows_eq, List.map_take]
theorem ahead_eq : ∀ (ws : List Int) (l : List Sm) (k : Nat) (H : Heap) (q o c : Nat) (sc : List V), H[q]? = some (some sc) → (∀ i n, ws[i]? = some n → sc[o + i]? = some (.int .i64 n)) → (∀ n ∈ ws, 0 ≤ n ∧ n < 9223372036854775808) → ws.length ≤ c →
  leadTo l k ws ≠ [] → Sm.sizes l ≤ 1000 → eval tbl noExt n_rewrite_ahead [.sl 7 (Sm.rows l), .int .i64 k, .ms q o ws.length c] H = some (.int .i64 (ahN l k ws), H)
 | [], l, k, H, q, o, c, sc, hq, hws, hpos, hc, hne, hsz => by
  have hkl : k < l.length := by
   rcases Nat.lt_or_ge k l.length with h | h
   ·exact h
   ·exact absurd (leadTo_none h []) hne
  have hct := Count_eq (l.take k) (by have := take_le l k; omega) []
  have hrt := Sm.rows_take l k
  have hrl := Sm.rows_len l
  have e1 : (k : Int) ≤ l.length := by omega
  rw [eval_M rfl rfl t_rewrite_ahead rfl]
  simp [c_rewrite_ahead, hrl, e1, hrt, hct, ahN]
 | n :: ws, l, k, H, q, o, c, sc, hq, hws, hpos, hc, hne, hsz => by
  cases hx : l[k]? with
  | none => exact absurd (leadTo_none (by rw [List.getElem?_eq_none_iff] at hx; exact hx) _) hne
  | some x =>
   rw [leadTo_some hx] at hne
   have hxs := take_sizes hx
   have hss := sub_size x n
   have hkl := get_len hx
   have hql := get_len hq
   have hn0 := (hpos n (by simp)).1
   have hn1 := (hpos n (by simp)).2
   have hw0 := hws 0 n rfl
   rw [Nat.add_zero] at hw0
   have hct := Count_eq (l.take k) (by have := take_le l k; omega) []
   have hrt := Sm.rows_take l k
   have hrl := Sm.rows_len l
   have hrow := Sm.rows_at hx
   have hah := ahN_le ws (x.sub n) (n / 2).toNat
   have hfl := Sm.flats_sizes (l.take k)
   have hcl : ws.length + 1 ≤ c := by simpa using hc
   have ha := bit_and hn0 hn1
   have hm : min 1 IntKind.i64.bits = 1 := by decide
   have hfd : n.fdiv 2 = n / 2 := Int.fdiv_eq_ediv_of_nonneg _ (by omega)
   have hnn : ((n / 2).toNat : Int) = n / 2 := by omega
   have e1 : (k : Int) ≤ l.length := by omega
   have e2 : (k : Int) < l.length := by omega
   have b1 : (0 : Int) < (ws.length : Int) + 1 := by omega
   have b2 : ¬ ((ws.length : Int) + 1 = 0) := by omega
   have b4 : (ws.length : Int) + 1 ≤ c := by omega
   have b5 : ((ws.length : Int) + 1).toNat = ws.length + 1 := by omega
   have b6 : (1 : Int) ≤ (ws.length : Int) + 1 := by omega
   have b7 : ¬ q = H.length := by omega
   have w1 : IntKind.i64.wrap (((Sm.flats (l.take k)).length : Int) + 1) = ((Sm.flats (l.take k)).length : Int) + 1 := by rw [w64] <;> omega
   have hrec := ahead_eq ws (x.sub n) (n / 2).toNat (H ++ [some x.cells]) q (o + 1) (c - 1) sc (by rw [List.getElem?_append_left hql, hq]) (fun j nn hj => by rw [Nat.add_assoc, Nat.add_comm 1 j]; exact hws (j + 1) nn (by simpa using hj)) (fun nn hnn => hpos nn (by simp [hnn])) (by omega) hne (by omega)
   rw [hnn] at hrec
   have hqa : ∀ X : Option (List V), (H ++ [X])[q]? = some (some sc) := fun X => by rw [List.getElem?_append_left hql, hq]
   rw [eval_M rfl rfl t_rewrite_ahead rfl, ahN_some hx]
   obtain ⟨op, s, m, xe, xb, xc, g⟩ := x
   have hcb := Count_eq xb (by simp only [Sm.size] at hxs; omega) []
   have hfb := Sm.flats_sizes xb
   simp only [Sm.size] at hxs
   by_cases hodd : n % 2 = 1
   ·have hS : Sm.sub (.mk op s m xe xb xc g) n = xc := by simp [Sm.sub, hodd, Sm.els]
    rw [hS] at hrec hah
    simp only [Sm.cells] at hrow hrec
    have w2 : IntKind.i64.wrap (((Sm.flats (l.take k)).length : Int) + 1 + (Sm.flats xb).length) = ((Sm.flats (l.take k)).length : Int) + 1 + (Sm.flats xb).length := by rw [w64] <;> omega
    have w3 : IntKind.i64.wrap (((Sm.flats (l.take k)).length : Int) + 1 + (Sm.flats xb).length + ahN xc (n / 2).toNat ws) = ((Sm.flats (l.take k)).length : Int) + 1 + (Sm.flats xb).length + ahN xc (n / 2).toNat ws := by rw [w64] <;> omega
    simp [c_rewrite_ahead, hrl, e1, e2, hrt, hct, hq, hw0, hrow, b1, b2, b4, b5, b6, b7, ha, hm, hfd, hodd, w1, w2, w3, hcb, hrec, hqa, V.apart, storeOf, hS, Sm.body, get0, set0]
   ·have hS : Sm.sub (.mk op s m xe xb xc g) n = xb := by simp [Sm.sub, hodd, Sm.body]
    rw [hS] at hrec hah
    simp only [Sm.cells] at hrow hrec
    have w3 : IntKind.i64.wrap (((Sm.flats (l.take k)).length : Int) + 1 + ahN xb (n / 2).toNat ws) = ((Sm.flats (l.take k)).length : Int) + 1 + ahN xb (n / 2).toNat ws := by rw [w64] <;> omega
    simp [c_rewrite_ahead, hrl, e1, e2, hrt, hct, hq, hw0, hrow, b1, b2, b4, b5, b6, b7, ha, hm, hfd, hodd, w1, w3, hcb, hrec, hqa, V.apart, storeOf, hS, Sm.body, get0, set0]
def Pg.fsts (p : Pg) (i : Nat) : List Sm := ((p.procs.take i).map (·.2)).flatten
def Pg.cntP (p : Pg) (i : Nat) : Nat := (Sm.flats (p.fsts i)).length
theorem Pg.cntP_next (p : Pg) {i : Nat} {x : List UInt8 × List Sm} (h : p.procs[i]? = some x) : p.cntP (i + 1) = p.cntP i + (Sm.flats x.2).length := by
 have : p.fsts (i + 1) = p.fsts i ++ x.2 := by simp [Pg.fsts, List.take_add_one, h]
 rw [Pg.cntP, this, Sm.flats_append, List.length_append, Pg.cntP]
theorem Pg.cntP_le (p : Pg) (i : Nat) : p.cntP i + Sm.sizes p.main ≤ p.size := by
 have h1 := Sm.flats_sizes (p.fsts i)
 have h2 : Sm.sizes (p.fsts i) ≤ Sm.sizes p.bodies.flatten := by
  have : p.bodies.flatten = p.fsts i ++ ((p.procs.drop i).map (·.2)).flatten := by
   rw [Pg.fsts, ← List.flatten_append, ← List.map_append, List.take_append_drop]; rfl
  rw [this, sizes_append]; omega
 have := p.size_eq
 unfold Pg.cntP; omega
theorem Pg.cntP_at (p : Pg) {i : Nat} {x : List UInt8 × List Sm} (h : p.procs[i]? = some x) : p.cntP i + Sm.sizes x.2 ≤ p.size := by
 have h1 := Sm.flats_sizes (p.fsts i)
 have hd : p.procs.drop i = x :: p.procs.drop (i + 1) := by
  have hl := get_len h
  rw [List.drop_eq_getElem_cons hl]
  rw [List.getElem?_eq_getElem hl] at h
  rw [Option.some.inj h]
 have : p.bodies.flatten = p.fsts i ++ (x.2 ++ ((p.procs.drop (i + 1)).map (·.2)).flatten) := by
  have e : p.bodies = (p.procs.take i).map (·.2) ++ (p.procs.drop i).map (·.2) := by rw [← List.map_append, List.take_append_drop]; rfl
  rw [e, List.flatten_append, hd]; rfl
 have h2 := p.size_eq
 rw [this, sizes_append, sizes_append] at h2
 unfold Pg.cntP; omega
def aheadP (p : Pg) (pt : Nat) : Nat := if pt = 0 then p.procs.length else pt - 1
def numOf (p : Pg) (s : Si) : Nat := p.cntP (aheadP p s.part.toNat) + ahN (p.blocks.getD s.part.toNat []) (kWay s) (nWay s)
theorem blocks_at {p : Pg} {pt : Nat} (h : pt < p.blocks.length) : (pt = 0 ∧ p.blocks.getD pt [] = p.main) ∨ ∃ x, 0 < pt ∧ p.procs[pt - 1]? = some x ∧ p.blocks.getD pt [] = x.2 := by
 rcases Nat.eq_zero_or_pos pt with rfl | h0
 ·exact .inl ⟨rfl, rfl⟩
 ·have hbl := p.blocks_len
  obtain ⟨x, hx⟩ : ∃ x, p.procs[pt - 1]? = some x := ⟨_, List.getElem?_eq_getElem (by omega)⟩
  refine .inr ⟨x, h0, hx, ?_⟩
  obtain ⟨m, rfl⟩ : ∃ m, pt = m + 1 := ⟨pt - 1, by omega⟩
  rw [List.getD_eq_getElem?_getD]
  simp only [Nat.add_sub_cancel] at hx
  simp [Pg.blocks, hx]
theorem numOf_le {p : Pg} {s : Si} (h0 : 0 ≤ s.part) (h1 : s.part < p.blocks.length) : numOf p s ≤ p.size := by
 unfold numOf
 have ha := ahN_le (nWay s) (p.blocks.getD s.part.toNat []) (kWay s)
 rcases blocks_at (p := p) (pt := s.part.toNat) (by omega) with ⟨e, hb⟩ | ⟨x, h2, hx, hb⟩
 ·rw [hb] at ha ⊢
  have := p.cntP_le (aheadP p s.part.toNat)
  omega
 ·rw [hb] at ha ⊢
  have := p.cntP_at hx
  have : aheadP p s.part.toNat = s.part.toNat - 1 := by unfold aheadP; rw [if_neg (by omega)]
  rw [this]; omega
theorem number_loop (p : Pg) (hp : p.size ≤ 1000) (s : Si) (hf : s.fit) (pt : Nat) (hpt : s.part = pt) (hptl : pt < p.blocks.length) (Q : Option (V × Heap) → Prop) (k : List Item)
  (hexit : ∀ φ' K, K[1]? = some (some s.cells) → Fr.get φ' 3 = .ptr 1 0 → Fr.get φ' 8 = .int .i64 (p.cntP (aheadP p pt)) → Fr.get φ' 9 = .sl 7 (Sm.rows (p.blocks.getD pt [])) → Q (M (eval tbl noExt) k φ' K)) :
  ∀ (j i : Nat) (φ : Fr) (K : Heap), i + j = p.procs.length → i ≤ aheadP p pt → K[1]? = some (some s.cells) → Fr.get φ 3 = .ptr 1 0 → Fr.get φ 8 = .int .i64 (p.cntP i) → Fr.get φ 9 = .sl 7 (Sm.rows p.main) → Fr.get φ 23 = .sl 2 p.pcells → Fr.get φ 24 = .int .i64 p.procs.length → Fr.get φ 25 = .int .i64 i →
   Q (M (eval tbl noExt) (.code l_rewrite_Number_0 :: .blk 0 :: k) φ K) := by
 have ok := hf.1
 have hpl := p.pcells_len
 have hbl := p.blocks_len
 have c1 := Si.c1 (s := s)
 have gb : ∀ h : 1 < s.cells.length, s.cells[1] = iv s.part := fun h => rfl
 have hs := p.size_eq
 intro j
 induction j with
 | zero =>
  intro i φ K hj hi hK h3 h8 h9 h23 h24 h25
  have hlt : ¬ ((i : Int) < p.procs.length) := by omega
  have hpt0 : pt = 0 := by
   unfold aheadP at hi
   rcases Nat.eq_zero_or_pos pt with h | h
   ·exact h
   ·rw [if_neg (by omega)] at hi; omega
  have hai : aheadP p pt = i := by unfold aheadP; rw [if_pos hpt0]; omega
  rw [l_rewrite_Number_0, M_loop, ← l_rewrite_Number_0]
  simp [b_rewrite_Number_0, h3, h8, h9, h23, h24, h25, hlt]
  refine hexit _ K hK (by simp [h3]) (by simp [h8, hai]) ?_
  subst hpt0
  simp [h9]; rfl
 | succ j ih =>
  intro i φ K hj hi hK h3 h8 h9 h23 h24 h25
  have hlt : (i : Int) < p.procs.length := by omega
  have hil : i < p.procs.length := by omega
  obtain ⟨e, he⟩ : ∃ e, p.procs[i]? = some e := ⟨_, List.getElem?_eq_getElem hil⟩
  have hrow := Pg.prow he
  have hrow2 : ∀ h : i < p.pcells.length, p.pcells[i] = [.str e.1, .sl 7 (Sm.rows e.2)] := fun h => by
   rw [List.getElem?_eq_getElem h] at hrow; exact Option.some.inj hrow
  have hw : IntKind.i64.wrap ((i : Int) + 1) = ((i + 1 : Nat) : Int) := by rw [w64 (by omega) (by omega)]; rfl
  have hwp : IntKind.i64.wrap (s.part - 1) = (pt : Int) - 1 := by rw [hpt, w64] <;> omega
  have hes : Sm.sizes e.2 ≤ 1000 := by have := p.cntP_at he; omega
  have hct := Count_eq e.2 (by omega) []
  have hcn := p.cntP_next he
  have hcp := p.cntP_at he
  have hfe := Sm.flats_sizes e.2
  have hwc : IntKind.i64.wrap ((p.cntP i : Int) + (Sm.flats e.2).length) = (p.cntP (i + 1) : Int) := by rw [hcn, w64] <;> omega
  have hKl := get_len hK
  have hK1 : ∀ X : Option (List V), (K ++ [X])[1]? = some (some s.cells) := fun X => by rw [List.getElem?_append_left hKl, hK]
  rw [l_rewrite_Number_0, M_loop, ← l_rewrite_Number_0]
  by_cases hm : (i : Int) = (pt : Int) - 1
  ·have hb : p.blocks.getD pt [] = e.2 := by
    rcases blocks_at hptl with ⟨e0, _⟩ | ⟨x, h2, hx, hb⟩
    ·omega
    ·rw [hb]
     rw [show pt - 1 = i by omega, he] at hx
     rw [Option.some.inj hx]
   have hai : aheadP p pt = i := by unfold aheadP; rw [if_neg (by omega)]; omega
   have hwp' : IntKind.i64.wrap (s.part - 1) = (i : Int) := by rw [hwp, hm]
   simp [b_rewrite_Number_0, h3, h8, h9, h23, h24, h25, hlt, hil, hpl, hrow, hrow2, hK1, c1, gb, hwp', get0, set0]
   refine hexit _ _ (hK1 _) ?_ ?_ ?_
   ·simp [h3]
   ·simp [h8, hai]
   ·rw [hb]; simp
  ·have hi' : i + 1 ≤ aheadP p pt := by
    unfold aheadP at hi ⊢
    split at hi <;> rename_i h
    ·rw [if_pos h]; omega
    ·rw [if_neg h]; omega
   simp [b_rewrite_Number_0, h3, h8, h9, h23, h24, h25, hlt, hil, hpl, hrow, hrow2, hK1, c1, gb, hwp, hm, get0, set0, hct, hwc, hw]
   refine ih (i + 1) _ _ (by omega) hi' (hK1 _) ?_ ?_ ?_ ?_ ?_ ?_ <;> simp [h3, h9, h23, h24]
theorem led_parts {p : Pg} {s : Si} (h : leadOf p s ≠ []) : 0 ≤ s.part ∧ s.part < p.blocks.length ∧ s.may = true ∧ leadOf p s = leadTo (p.blocks.getD s.part.toNat []) (kWay s) (nWay s) := by
 unfold leadOf at h ⊢
 split at h
 ·rename_i hc
  rw [if_pos hc]
  exact ⟨hc.1, hc.2.1, hc.2.2, rfl⟩
 ·exact absurd rfl h
theorem Number_eq (p : Pg) (hp : p.size ≤ 1000) (s : Si) (hf : s.fit) : eval tbl noExt n_rewrite_Number [.agg p.cells, .agg s.cells] [] = some (.tup [.int .i64 (if (leadOf p s).isEmpty then 0 else numOf p s : Nat), .bool (!(leadOf p s).isEmpty)], []) := by
 have ok := hf.1
 have hat := At_eq p hp s hf
 have hpc : p.cells = [.sl 2 p.pcells, .sl 7 (Sm.rows p.main), .sl 7 (Sm.rows p.recover), .sl 5 p.ocells] := rfl
 have hpl := p.pcells_len
 have q0 := Si.c0 (s := s)
 have q1 := Si.len ok
 have q3 := Si.strip (s := s)
 have q5 := Si.take ok
 have qu := fun n => Si.under (s := s) n
 have c1 := Si.c1 (s := s)
 have c2 := Si.c2 s ok
 have c10 := Si.c10 ok
 obtain ⟨X, hX⟩ : ∃ X, X = leadOf p s := ⟨_, rfl⟩
 obtain ⟨a0, a1, a2, a3, a4, a5, a6, hcs⟩ := Sm.cells_shape (headOf X)
 rw [eval_M rfl rfl t_rewrite_Number rfl]
 rw [← hX] at hat ⊢
 rw [hpc] at hat ⊢
 cases hXe : X.isEmpty with
 | true =>
  rw [hXe] at hat
  rw [hcs] at hat
  simp [c_rewrite_Number, hat, q1, q3, q5, qu]
 | false =>
  rw [hXe] at hat
  have hne : leadOf p s ≠ [] := fun h => by rw [hX, h] at hXe; simp at hXe
  obtain ⟨g0, g1, g2, g3⟩ := led_parts hne
  obtain ⟨m1, m2, m3⟩ := may_all g2
  obtain ⟨d, hd⟩ : ∃ d : Nat, s.deep = d := ⟨s.deep.toNat, by omega⟩
  have d1 : 1 ≤ d := by omega
  have d8 : d ≤ 8 := by omega
  obtain ⟨pt, hpt⟩ : ∃ pt : Nat, s.part = pt := ⟨s.part.toNat, by omega⟩
  obtain ⟨hwl, hwa⟩ := nWay_at ok hd d1 d8
  rw [hcs] at hat
  obtain ⟨w0, hw0⟩ : ∃ w0, w0 = s.way.getD 0 0 := ⟨_, rfl⟩
  rw [← hw0] at c2
  rw [hd] at c10
  have gc : ∀ h : 2 < s.cells.length, s.cells[2] = iv w0 := fun h => by
   rw [List.getElem?_eq_getElem h] at c2; exact Option.some.inj c2
  have gd : ∀ h : 10 < s.cells.length, s.cells[10] = iv (d : Int) := fun h => by
   rw [List.getElem?_eq_getElem h] at c10; exact Option.some.inj c10
  have hk : ((kWay s : Nat) : Int) = w0 := by
   have := m3 _ (getD_mem (l := s.way) (by rw [show s.way.length = 8 from hf.1]; omega))
   rw [hw0]; unfold kWay; omega
  have hnle := numOf_le g0 g1
  have hptt : s.part.toNat = pt := by omega
  have hbs : Sm.sizes (p.blocks.getD pt []) ≤ 1000 := by
   rcases blocks_at (p := p) (pt := pt) (by omega) with ⟨_, hb⟩ | ⟨x, _, hx, hb⟩
   ·rw [hb]; have := p.cntP_le 0; omega
   ·rw [hb]; have := p.cntP_at hx; omega
  rw [g3, hptt] at hne
  have b1 : (1 : Int) ≤ d := by omega
  have b2 : (d : Int) ≤ 8 := by omega
  simp [c_rewrite_Number, hat, q1, q3, q5, qu, hpl]
  refine number_loop p hp s hf pt hpt (by omega) (fun o => o = _) _ (fun φ' K hK h3 h8 h9 => ?_) p.procs.length 0 _ _ (by omega) (by omega) rfl ?_ ?_ ?_ ?_ ?_ ?_
  ·have hah := ahead_eq (nWay s) (p.blocks.getD pt []) (kWay s) K 1 3 7 s.cells hK hwa (fun n hn => ⟨m3 n (List.mem_of_mem_take (List.mem_of_mem_drop hn)), (fit_range (hf.2.2.2.1 n (List.mem_of_mem_take (List.mem_of_mem_drop hn)))).2⟩) (by omega) hne hbs
   rw [hwl, hk] at hah
   have hno : numOf p s = p.cntP (aheadP p pt) + ahN (p.blocks.getD pt []) (kWay s) (nWay s) := by unfold numOf; rw [hptt]
   have hw : IntKind.i64.wrap ((p.cntP (aheadP p pt) : Int) + (ahN (p.blocks.getD pt []) (kWay s) (nWay s) : Int)) = (numOf p s : Int) := by rw [hno, w64] <;> omega
   obtain ⟨B, hB⟩ : ∃ B, B = p.blocks.getD pt [] := ⟨_, rfl⟩
   rw [← hB] at hah h9 hw
   simp [r_rewrite_Number_0, h3, h8, h9, hK, c2, c10, gc, gd, q1, b1, b2, hah, hw]
  all_goals simp [Pg.cntP, Pg.fsts, Sm.flats]
set_option maxHeartbeats 1000000
set_option maxHeartbeats 2000000
def PrP (H : Heap) (x : List UInt8 × List Sm) (cells : List V) (S : List Nat) : Prop := cells = procV x ∧ S = []
theorem PrP.frame : ∀ (H K : Heap) (x : List UInt8 × List Sm) (r : List V) (S : List Nat), PrP H x r S → (∀ i ∈ S, K[i]? = H[i]?) → PrP K x r S := fun _ _ _ _ _ h _ => h
theorem PrP.len : ∀ (H : Heap) (x : List UInt8 × List Sm) (r : List V) (S : List Nat), PrP H x r S → r.length = 2 := fun _ _ _ _ h => by rw [h.1]; rfl
theorem OL.frame {α : Type} {R : Heap → α → List V → List Nat → Prop} (hR : ∀ H K a r S, R H a r S → (∀ i ∈ S, K[i]? = H[i]?) → R K a r S) {k n : Nat} {K K' : Heap} {v : V} {l : List α} {S : List Nat} (h : OL R k n K v l S) (hK : ∀ i, n ≤ i → K'[i]? = K[i]?) (hl : K'.length = K.length) : OL R k n K' v l S := by
 refine ⟨h.nd, fun i hi => by rw [hl]; exact h.at_ i hi, ?_⟩
 rcases h.is with h1 | ⟨i, rows, S', h1, h2, rfl, h4, h5⟩
 ·exact .inl h1
 ·exact .inr ⟨i, rows, S', h1, h2, rfl, by rw [hK i (h.at_ i (by simp)).1, h4], GReps.frame hR h5 fun j hj => hK j (h.at_ j (by simp [hj])).1⟩
def orows (l : List (List UInt8 × Ex)) : List (List V) := l.map fun x => .str x.1 :: x.2.cells
theorem fits_kind {kind : Int} {X : List Sm} (h : fitsOf kind X = true) : kind = 1 ∨ kind = 2 ∨ kind = 3 ∨ kind = 4 ∨ kind = 5 ∨ kind = 6 ∨ kind = 7 ∨ kind = 8 := by
 cases X with
 | nil => simp [fitsOf] at h
 | cons x r =>
  rw [fitsOf_cons] at h
  by_cases h1 : kind = 1; exact .inl h1
  by_cases h2 : kind = 2; exact .inr (.inl h2)
  by_cases h3 : kind = 3; exact .inr (.inr (.inl h3))
  by_cases h4 : kind = 4; exact .inr (.inr (.inr (.inl h4)))
  by_cases h5 : kind = 5; exact .inr (.inr (.inr (.inr (.inl h5))))
  by_cases h6 : kind = 6; exact .inr (.inr (.inr (.inr (.inr (.inl h6)))))
  by_cases h7 : kind = 7; exact .inr (.inr (.inr (.inr (.inr (.inr (.inl h7))))))
  by_cases h8 : kind = 8; exact .inr (.inr (.inr (.inr (.inr (.inr (.inr h8))))))
  simp [h1, h2, h3, h4, h5, h6, h7, h8] at h
theorem set_mid {α : Type} {A B : List α} {x y : α} {k : Nat} (h : A.length = k) : (A ++ x :: B).set k y = A ++ y :: B := by
 rw [List.set_append_right _ _ (by omega), h, Nat.sub_self]; rfl
theorem Ex.rows_plain (l : List Ex) : ((Ex.rows l).all fun r => r.all V.plain) = true := by
 rw [List.all_eq_true]
 intro r hr
 rw [Ex.rows_eq] at hr
 obtain ⟨e, _, rfl⟩ := List.mem_map.1 hr
 cases e; rfl
theorem edit_at {kind : Int} {A r : List Sm} {x : Sm} {k : Nat} (hA : A.length = k) : edit kind (A ++ x :: r) k = A ++ edit kind (x :: r) 0 := by
 unfold edit
 have h1 : (A ++ x :: r)[k]? = some x := by rw [List.getElem?_append_right (by omega), hA, Nat.sub_self]; rfl
 rw [h1]
 simp only [List.getElem?_cons_zero]
 split
 ·rw [set_mid hA]; rfl
 split
 ·rw [set_mid hA]; rfl
 split
 ·rw [set_mid hA]; rfl
 split
 ·unfold swapAt
  rw [h1]
  have h2 : (A ++ x :: r)[k + 1]? = r.head? := by rw [List.getElem?_append_right (by omega), show k + 1 - A.length = 1 by omega]; cases r <;> rfl
  rw [h2]
  cases r with
  | nil => rfl
  | cons y r =>
   simp only [List.head?_cons, List.getElem?_cons_zero, List.getElem?_cons_succ, Nat.zero_add]
   rw [set_mid hA, show A ++ y :: y :: r = (A ++ [y]) ++ y :: r by simp, set_mid (by simp [hA])]
   simp
 ·rw [eraseIdx_mid hA]; rfl
set_option maxHeartbeats 1000000
def Sm.bare : Sm → Sm
 | .mk op s n e _ _ g => .mk op s n e [] [] g
def Sm.ins : Sm → List Sm
 | .mk _ _ _ _ b c _ => Sm.flats b ++ Sm.flats c
theorem Sm.flat_ins (x : Sm) : x.flat = x :: x.ins := by cases x; rfl
def barF (l : List Sm) : List Sm := (Sm.flats l).map Sm.bare
theorem barF_app (a b : List Sm) : barF (a ++ b) = barF a ++ barF b := by simp [barF, Sm.flats_append]
theorem barF_cons (x : Sm) (l : List Sm) : barF (x :: l) = x.bare :: (x.ins.map Sm.bare ++ barF l) := by
 simp [barF, Sm.flats, Sm.flat_ins]
theorem ins_bar (op : Int) (s : List UInt8) (n : Int) (e : List Ex) (b c : List Sm) (g : Bool) : (Sm.ins (.mk op s n e b c g)).map Sm.bare = barF b ++ barF c := by
 simp [Sm.ins, barF]
theorem splice (kind : Int) : ∀ (ws : List Int) (l : List Sm) (k : Nat), leadTo l k ws ≠ [] →
  ∃ P R : List Sm, barF l = P ++ (barF (leadTo l k ws) ++ R) ∧ barF (editAt kind l k ws) = P ++ (barF (edit kind (leadTo l k ws) 0) ++ R) ∧ P.length = ahN l k ws
 | [], l, k, h => by
  rw [leadTo] at h ⊢
  cases hX : l.drop k with
  | nil => exact absurd hX h
  | cons x r =>
   have hk : k < l.length := by
    rcases Nat.lt_or_ge k l.length with h' | h'
    ·exact h'
    ·rw [List.drop_eq_nil_of_le h'] at hX; cases hX
   have he : l = l.take k ++ x :: r := by rw [← hX, List.take_append_drop]
   have hA : (l.take k).length = k := by simp; omega
   refine ⟨barF (l.take k), [], ?_, ?_, by simp [barF, ahN]⟩
   ·rw [List.append_nil, ← barF_app, ← he]
   ·rw [editAt, List.append_nil, ← barF_app, ← edit_at hA, ← he]
 | n :: ws, l, k, h => by
  cases hx : l[k]? with
  | none => exact absurd (leadTo_none (by rw [List.getElem?_eq_none_iff] at hx; exact hx) _) h
  | some x =>
   rw [leadTo_some hx] at h ⊢
   obtain ⟨P, R, h1, h2, h3⟩ := splice kind ws _ _ h
   rw [editAt_some hx, ahN_some hx]
   obtain ⟨A, B, rfl, hA⟩ := split_row hx
   rw [set_mid hA, List.take_left' hA]
   obtain ⟨op, s, m, xe, xb, xc, g⟩ := x
   by_cases hodd : n % 2 = 1
   ·have hS : Sm.sub (.mk op s m xe xb xc g) n = xc := by simp [Sm.sub, hodd, Sm.els]
    rw [hS] at h1 h2 h3 ⊢
    have hW : ∀ L, Sm.withSub (.mk op s m xe xb xc g) n L = .mk op s m xe xb L g := fun L => by simp [Sm.withSub, hodd]
    rw [hW]
    refine ⟨barF A ++ (.mk op s m xe [] [] g :: (barF xb ++ P)), R ++ barF B, ?_, ?_, ?_⟩
    ·rw [barF_app, barF_cons, ins_bar, h1]; simp [Sm.bare]
    ·rw [barF_app, barF_cons, ins_bar, h2]; simp [Sm.bare]
    ·simp only [List.length_append, List.length_cons, h3, hodd, if_true, Sm.body, barF, List.length_map]; omega
   ·have hS : Sm.sub (.mk op s m xe xb xc g) n = xb := by simp [Sm.sub, hodd, Sm.body]
    rw [hS] at h1 h2 h3 ⊢
    have hW : ∀ L, Sm.withSub (.mk op s m xe xb xc g) n L = .mk op s m xe L xc g := fun L => by simp [Sm.withSub, hodd]
    rw [hW]
    refine ⟨barF A ++ (.mk op s m xe [] [] g :: P), R ++ (barF xc ++ barF B), ?_, ?_, ?_⟩
    ·rw [barF_app, barF_cons, ins_bar, h1]; simp [Sm.bare]
    ·rw [barF_app, barF_cons, ins_bar, h2]; simp [Sm.bare]
    ·simp only [List.length_append, List.length_cons, h3, hodd, if_false, barF, List.length_map]; omega
theorem flats_bar (p : Pg) : p.flats.map Sm.bare = barF (p.fsts p.procs.length) ++ (barF p.main ++ barF p.recover) := by
 have : p.parts.flatten = p.fsts p.procs.length ++ (p.main ++ p.recover) := by simp [Pg.parts, Pg.fsts]
 show barF p.parts.flatten = _
 rw [this, barF_app, barF_app]
theorem splicePg {p : Pg} {s : Si} (h : leadOf p s ≠ []) : ∃ P R : List Sm, p.flats.map Sm.bare = P ++ (barF (leadOf p s) ++ R) ∧ (p.edited s).flats.map Sm.bare = P ++ (barF (edit s.kind (leadOf p s) 0) ++ R) ∧ P.length = numOf p s := by
 obtain ⟨g0, g1, g2, g3⟩ := led_parts h
 rw [g3] at h ⊢
 obtain ⟨P, R, h1, h2, h3⟩ := splice s.kind (nWay s) _ _ h
 unfold numOf Pg.cntP
 by_cases h0 : s.part ≤ 0
 ·have e : s.part.toNat = 0 := by omega
  rw [e] at h1 h2 h3 ⊢
  have hm : p.blocks.getD 0 [] = p.main := rfl
  rw [hm] at h1 h2 h3 ⊢
  have ha : aheadP p 0 = p.procs.length := rfl
  rw [ha]
  refine ⟨barF (p.fsts p.procs.length) ++ P, R ++ barF p.recover, ?_, ?_, by rw [List.length_append, h3]; simp [barF]⟩
  ·rw [flats_bar, h1]; simp
  ·have hq : p.edited s = { p with main := editAt s.kind p.main (kWay s) (nWay s) } := by unfold Pg.edited; rw [if_pos h0]
   rw [flats_bar, hq]
   show barF (p.fsts p.procs.length) ++ (barF (editAt s.kind p.main (kWay s) (nWay s)) ++ barF p.recover) = _
   rw [h2]; simp
 ·have hbl := p.blocks_len
  obtain ⟨m, hm⟩ : ∃ m : Nat, s.part = ((m + 1 : Nat) : Int) := ⟨(s.part - 1).toNat, by omega⟩
  have hmn : m < p.procs.length := by omega
  obtain ⟨x, hx⟩ : ∃ x, p.procs[m]? = some x := ⟨_, List.getElem?_eq_getElem hmn⟩
  have hb : p.blocks.getD s.part.toNat [] = x.2 := by
   rw [hm, Int.toNat_natCast, List.getD_eq_getElem?_getD]
   simp [Pg.blocks, hx]
  rw [hb] at h1 h2 h3 ⊢
  have ha : aheadP p s.part.toNat = m := by unfold aheadP; rw [if_neg (by omega)]; omega
  rw [ha]
  have hq : p.edited s = { p with procs := p.procs.set m (x.1, editAt s.kind x.2 (kWay s) (nWay s)) } := by
   unfold Pg.edited
   rw [if_neg h0, show (s.part - 1).toNat = m by omega, hx]
  obtain ⟨A, B, hAB, hA⟩ := split_row hx
  have hf : p.fsts m = (A.map (·.2)).flatten := by rw [Pg.fsts, hAB, List.take_left' hA]
  have e1 : p.flats.map Sm.bare = barF ((A.map (·.2)).flatten) ++ (barF x.2 ++ (barF ((B.map (·.2)).flatten) ++ (barF p.main ++ barF p.recover))) := by
   have : p.parts.flatten = (A.map (·.2)).flatten ++ (x.2 ++ ((B.map (·.2)).flatten ++ (p.main ++ p.recover))) := by simp [Pg.parts, hAB]
   show barF p.parts.flatten = _
   rw [this]; simp only [barF_app]
  have e2 : (p.edited s).flats.map Sm.bare = barF ((A.map (·.2)).flatten) ++ (barF (editAt s.kind x.2 (kWay s) (nWay s)) ++ (barF ((B.map (·.2)).flatten) ++ (barF p.main ++ barF p.recover))) := by
   have : (p.edited s).parts.flatten = (A.map (·.2)).flatten ++ (editAt s.kind x.2 (kWay s) (nWay s) ++ ((B.map (·.2)).flatten ++ (p.main ++ p.recover))) := by
    rw [hq]; simp [Pg.parts, hAB, set_mid hA]
   show barF (p.edited s).parts.flatten = _
   rw [this]; simp only [barF_app]
  refine ⟨barF ((A.map (·.2)).flatten) ++ P, R ++ (barF ((B.map (·.2)).flatten) ++ (barF p.main ++ barF p.recover)), ?_, ?_, by rw [List.length_append, h3, hf]; simp [barF]⟩
  ·rw [e1, h1]; simp
  ·rw [e2, h2]; simp
theorem Sm.ok_leaf {x : Sm} {d : Nat} (h : x.ok d = true) (hop : ¬ (x.op = 13 ∨ x.op = 14 ∨ x.op = 16)) : x.ins = [] := by
 obtain ⟨op, s, n, e, b, c, g⟩ := x
 simp only [Sm.op] at hop
 simp only [Sm.ok, Bool.and_eq_true] at h
 have hs := h.2.1
 unfold shapeOk at hs
 split at hs
 ·cases hs
 ·simp only [Bool.and_eq_true, Bool.or_eq_true, decide_eq_true_eq] at hs
  obtain ⟨_, _, _, _, _, _, hb, hc, _⟩ := hs
  have hb' : b = [] := hb.resolve_left hop
  have hc' : c = [] := hc.resolve_left (fun h => hop (.inl h))
  subst hb'; subst hc'; rfl
theorem oks_mem {l : List Sm} {d : Nat} (h : Sm.oks l d = true) : ∀ x ∈ l, x.ok d = true := by
 rw [Sm.oks_all] at h
 exact List.all_eq_true.1 h
theorem lead_ok : ∀ (ws : List Int) (l : List Sm) (k d : Nat), Sm.oks l d = true → ∀ x ∈ leadTo l k ws, ∃ d', x.ok d' = true
 | [], l, k, d, h, x, hx => by
  rw [leadTo] at hx
  exact ⟨d, oks_mem h x (List.mem_of_mem_drop hx)⟩
 | n :: ws, l, k, d, h, x, hx => by
  cases hy : l[k]? with
  | none => rw [leadTo_none (by rw [List.getElem?_eq_none_iff] at hy; exact hy)] at hx; simp at hx
  | some y =>
   rw [leadTo_some hy] at hx
   have hyo := oks_mem h y (List.mem_of_getElem? hy)
   obtain ⟨op, s, m, e, b, c, g⟩ := y
   simp only [Sm.ok, Bool.and_eq_true] at hyo
   refine lead_ok ws _ _ (d + 1) ?_ x hx
   unfold Sm.sub
   split
   ·exact hyo.2.2.2.2
   ·exact hyo.2.2.2.1
theorem leadOf_ok {p : Pg} (h : p.ok = true) {s : Si} : ∀ x ∈ leadOf p s, ∃ d', x.ok d' = true := by
 intro x hx
 obtain ⟨g0, g1, g2, g3⟩ := led_parts (p := p) (s := s) (fun e => by rw [e] at hx; simp at hx)
 rw [g3] at hx
 unfold Pg.ok at h
 simp only [Bool.and_eq_true] at h
 obtain ⟨_, _, _, h4, _, h6, _⟩ := h
 refine lead_ok _ _ _ 1 ?_ x hx
 rcases blocks_at (p := p) (pt := s.part.toNat) (by omega) with ⟨_, hb⟩ | ⟨z, _, hz, hb⟩
 ·rw [hb]; exact h6
 ·rw [hb]
  have := List.all_eq_true.1 h4 z (List.mem_of_getElem? hz)
  simp only [Bool.and_eq_true] at this
  exact this.2
def wantOf (kind : Int) (a : List Sm) (n : Nat) : List Sm :=
 if kind = 1 ∨ kind = 3 ∨ kind = 4 ∨ kind = 8 then a.eraseIdx n else if kind = 5 ∧ n + 1 < a.length then swapAt a n else if kind = 2 then (match a[n]? with | some x => a.set n (x.setOp 9) | none => a) else if kind = 6 then (match a[n]? with | some x => a.set n x.unmark | none => a) else a
theorem want_is {p : Pg} {s : Si} (hok : p.ok = true) (hfit : fitsOf s.kind (leadOf p s) = true) : numOf p s < p.flats.length ∧ (s.kind = 5 → numOf p s + 1 < p.flats.length) ∧
  (wantOf s.kind p.flats (numOf p s)).length = (p.edited s).flats.length ∧ ∀ i x y, (wantOf s.kind p.flats (numOf p s))[i]? = some x → (p.edited s).flats[i]? = some y → x.bare = y.bare ∨ (i = numOf p s ∧ s.kind = 7) := by
 cases hX : leadOf p s with
 | nil => rw [hX] at hfit; simp [fitsOf] at hfit
 | cons x r =>
  obtain ⟨P, R, h1, h2, h3⟩ := splicePg (p := p) (s := s) (by rw [hX]; simp)
  have hko := leadOf_ok hok (s := s)
  rw [hX] at h1 h2 hfit hko
  have hkk := fits_kind hfit
  have hins : ¬ (x.op = 13 ∨ x.op = 14 ∨ x.op = 16) → x.ins = [] := fun h => by
   obtain ⟨d, hd⟩ := hko x (by simp)
   exact Sm.ok_leaf hd h
  rw [barF_cons] at h1
  have h1' : p.flats.map Sm.bare = P ++ (x.bare :: (x.ins.map Sm.bare ++ barF r ++ R)) := by rw [h1]; simp
  obtain ⟨a1, a2, ha, hP, h4⟩ := List.map_eq_append_iff.1 h1'
  obtain ⟨z, a3, rfl, hz, h5⟩ := List.map_eq_cons_iff.1 h4
  have hl1 : a1.length = numOf p s := by rw [← h3, ← hP, List.length_map]
  have hn : p.flats[numOf p s]? = some z := by rw [ha, List.getElem?_append_right (by omega), hl1, Nat.sub_self]; rfl
  generalize hN : numOf p s = N at *
  generalize hQ : (p.edited s).flats = b at *
  have fin : ∀ W : List Sm, W.map Sm.bare = b.map Sm.bare → W.length = b.length ∧ ∀ i u v, W[i]? = some u → b[i]? = some v → u.bare = v.bare ∨ (i = N ∧ s.kind = 7) := fun W h => by
   refine ⟨by have := congrArg List.length h; simpa using this, fun i u v hu hv => .inl ?_⟩
   have e1 : (W.map Sm.bare)[i]? = some u.bare := by rw [List.getElem?_map, hu]; rfl
   have e2 : (b.map Sm.bare)[i]? = some v.bare := by rw [List.getElem?_map, hv]; rfl
   rw [h, e2] at e1
   exact (Option.some.inj e1).symm
  have hfa : p.flats.length = N + 1 + a3.length := by rw [ha, List.length_append, List.length_cons, hl1]; omega
  refine ⟨by omega, fun h5k => ?_, ?_⟩
  ·rw [h5k, fitsOf_cons] at hfit
   cases r with
   | nil => simp [nextWrites] at hfit
   | cons y r =>
    have := congrArg List.length h5
    rw [barF_cons] at this
    simp at this
    omega
  ·unfold wantOf
   obtain ⟨kd, hkd⟩ : ∃ kd, kd = s.kind := ⟨_, rfl⟩
   rw [← hkd] at hkk hfit h2 fin ⊢
   rw [fitsOf_cons] at hfit
   have hzo : ∀ o : Int, x.op = o → o ≠ 13 → o ≠ 14 → o ≠ 16 → x.ins = [] := fun o ho h1 h2 h3 => hins (by rw [ho]; omega)
   have hdrop : x.ins = [] → barF (edit kd (x :: r) 0) = barF r → ((a1 ++ z :: a3).eraseIdx N).map Sm.bare = b.map Sm.bare := fun hi he => by
    rw [eraseIdx_mid hl1, h2, he, List.map_append, hP, h5, hi]; simp
   rw [ha]
   rcases hkk with rfl | rfl | rfl | rfl | rfl | rfl | rfl | rfl
   ·simp at hfit
    have hi : x.ins = [] := by rcases hfit with h | h <;> exact hzo _ h (by omega) (by omega) (by omega)
    simpa using fin _ (hdrop hi rfl)
   ·rw [List.getElem?_append_right (by omega), hl1, Nat.sub_self]
    have hm : ((a1 ++ z :: a3).set N (z.setOp 9)).map Sm.bare = b.map Sm.bare := by
     rw [set_mid hl1, h2, List.map_append, hP, List.map_cons, h5]
     have e1 : edit 2 (x :: r) 0 = x.setOp 9 :: r := rfl
     rw [e1, barF_cons]
     have e2 : (z.setOp 9).bare = (x.setOp 9).bare := by
      obtain ⟨o1, s1, n1, e1, b1, c1, g1⟩ := z
      obtain ⟨o2, s2, n2, e2, b2, c2, g2⟩ := x
      simp only [Sm.bare, Sm.mk.injEq] at hz
      obtain ⟨rfl, rfl, rfl, rfl, _, _, rfl⟩ := hz
      rfl
     have e3 : (x.setOp 9).ins = x.ins := by cases x; rfl
     rw [e2, e3]; simp
    simpa using fin _ hm
   ·simp at hfit
    simpa using fin _ (hdrop (hzo _ hfit (by omega) (by omega) (by omega)) rfl)
   ·simp at hfit
    simpa using fin _ (hdrop (hzo _ hfit (by omega) (by omega) (by omega)) rfl)
   ·-- exchanged
    simp [Sm.writes] at hfit
    obtain ⟨hxw, hnw⟩ := hfit
    cases r with
    | nil => simp [nextWrites] at hnw
    | cons y r =>
     simp [nextWrites, Sm.writes] at hnw
     have hix : x.ins = [] := by rcases hxw with h | h <;> exact hzo _ h (by omega) (by omega) (by omega)
     have hiy : y.ins = [] := by
      obtain ⟨d, hd⟩ := hko y (by simp)
      exact Sm.ok_leaf hd (by rcases hnw with h | h <;> rw [h] <;> omega)
     rw [hix, barF_cons, hiy] at h5
     simp only [List.map_nil, List.nil_append, List.cons_append] at h5
     obtain ⟨z2, a4, rfl, hz2, h6⟩ := List.map_eq_cons_iff.1 h5
     have hlt : N + 1 < (a1 ++ z :: z2 :: a4).length := by simp; omega
     have hm : (swapAt (a1 ++ z :: z2 :: a4) N).map Sm.bare = b.map Sm.bare := by
      have g1 : (a1 ++ z :: z2 :: a4)[N]? = some z := by rw [List.getElem?_append_right (by omega), hl1, Nat.sub_self]; rfl
      have g2 : (a1 ++ z :: z2 :: a4)[N + 1]? = some z2 := by rw [List.getElem?_append_right (by omega), hl1, show N + 1 - N = 1 by omega]; rfl
      unfold swapAt
      rw [g1, g2]
      simp only
      rw [set_mid hl1, show a1 ++ z2 :: z2 :: a4 = (a1 ++ [z2]) ++ z2 :: a4 by simp, set_mid (by simp [hl1]), h2]
      have e1 : edit 5 (x :: y :: r) 0 = y :: x :: r := rfl
      rw [e1, barF_cons, barF_cons, hix, hiy]
      simp [hP, hz, hz2, h6]
     have := fin _ hm
     simp only [show ¬ ((5 : Int) = 1 ∨ (5 : Int) = 3 ∨ (5 : Int) = 4 ∨ (5 : Int) = 8) by decide, if_false, true_and, hlt, if_true]
     exact this
   ·rw [List.getElem?_append_right (by omega), hl1, Nat.sub_self]
    have hm : ((a1 ++ z :: a3).set N z.unmark).map Sm.bare = b.map Sm.bare := by
     rw [set_mid hl1, h2, List.map_append, hP, List.map_cons, h5]
     have e1 : edit 6 (x :: r) 0 = x.unmark :: r := rfl
     rw [e1, barF_cons]
     have e2 : z.unmark.bare = x.unmark.bare := by
      obtain ⟨o1, s1, n1, e1, b1, c1, g1⟩ := z
      obtain ⟨o2, s2, n2, e2, b2, c2, g2⟩ := x
      simp only [Sm.bare, Sm.mk.injEq] at hz
      obtain ⟨rfl, rfl, rfl, rfl, _, _, rfl⟩ := hz
      rfl
     have e3 : x.unmark.ins = x.ins := by cases x; rfl
     rw [e2, e3]; simp
    simpa using fin _ hm
   ·-- torn
    have e1 : edit 7 (x :: r) 0 = x.tear :: r := rfl
    have e3 : x.tear.ins = x.ins := by cases x; rfl
    rw [e1, barF_cons, e3] at h2
    have h2' : b.map Sm.bare = P ++ (x.tear.bare :: (x.ins.map Sm.bare ++ barF r ++ R)) := by rw [h2]; simp
    have hlen : (a1 ++ z :: a3).length = b.length := by
     have e4 := congrArg List.length h2'
     have e5 := congrArg List.length h5
     simp at e4 e5
     rw [List.length_append, List.length_cons, e4, e5, hl1, h3]
    simp only [show ¬ ((7 : Int) = 1 ∨ (7 : Int) = 3 ∨ (7 : Int) = 4 ∨ (7 : Int) = 8) by decide, show ¬ (7 : Int) = 5 by decide, show ¬ (7 : Int) = 2 by decide, show ¬ (7 : Int) = 6 by decide, if_false, false_and]
    refine ⟨hlen, fun i u v hu hv => ?_⟩
    by_cases hi : i = N
    ·exact .inr ⟨hi, trivial⟩
    ·left
     have e6 : ((a1 ++ z :: a3).map Sm.bare)[i]? = some u.bare := by rw [List.getElem?_map, hu]; rfl
     have e7 : (b.map Sm.bare)[i]? = some v.bare := by rw [List.getElem?_map, hv]; rfl
     rw [List.map_append, List.map_cons, hP, h5] at e6
     rw [h2'] at e7
     rcases Nat.lt_trichotomy i N with hlt | he | hgt
     ·rw [List.getElem?_append_left (by omega)] at e6 e7
      rw [e6] at e7; exact Option.some.inj e7
     ·exact absurd he hi
     ·rw [List.getElem?_append_right (by omega)] at e6 e7
      obtain ⟨j, hj⟩ : ∃ j, i - P.length = j + 1 := ⟨i - P.length - 1, by omega⟩
      rw [hj, List.getElem?_cons_succ] at e6 e7
      rw [e6] at e7; exact Option.some.inj e7
   ·simp [Sm.writes] at hfit
    have hi : x.ins = [] := by rcases hfit with h | h <;> exact hzo _ h (by omega) (by omega) (by omega)
    simpa using fin _ (hdrop hi rfl)
set_option maxHeartbeats 4000000
theorem knows26o : eval tbl noExt n_flotsamlaw26_knows [] [] = some (.bool true, []) := (eval_iff _ _ _ _ _ _).2 ⟨400, by kernel_rfl⟩
theorem drops_eq (kind : Int) : eval tbl noExt n_flotsamlaw26_drops [.int .i64 kind] [] = some (.bool (decide (kind = 1 ∨ kind = 3 ∨ kind = 4 ∨ kind = 8)), []) := by
 rw [eval_M rfl rfl t_flotsamlaw26_drops rfl]
 by_cases h1 : kind = 1
 ·simp [c_flotsamlaw26_drops, h1]
 by_cases h3 : kind = 3
 ·simp [c_flotsamlaw26_drops, h1, h3]
 by_cases h4 : kind = 4
 ·simp [c_flotsamlaw26_drops, h1, h3, h4]
 by_cases h8 : kind = 8
 ·simp [c_flotsamlaw26_drops, h1, h3, h4, h8]
 ·simp [c_flotsamlaw26_drops, h1, h3, h4, h8]
theorem bare_eq (x : Sm) : eval tbl noExt n_flotsamlaw26_bare [.agg x.cells] [] = some (.agg x.bare.cells, []) := by
 obtain ⟨op, s, m, xe, xb, xc, g⟩ := x
 rw [eval_M rfl rfl t_flotsamlaw26_bare rfl]
 simp [c_flotsamlaw26_bare, Sm.cells, Sm.bare, Sm.rows]
theorem bare_size (x : Sm) : x.bare.size ≤ x.size := by
 obtain ⟨op, s, m, xe, xb, xc, g⟩ := x
 simp only [Sm.bare, Sm.size, Sm.sizes]; omega
theorem edited_rest (p : Pg) (s : Si) : (p.edited s).recover = p.recover ∧ (p.edited s).oracles = p.oracles ∧ (p.edited s).procs.length = p.procs.length ∧ (0 < s.part → (p.edited s).main = p.main) ∧
  ∀ (i : Nat) (x : List UInt8 × List Sm), p.procs[i]? = some x → ∃ b, (p.edited s).procs[i]? = some (x.1, b) ∧ ((i : Int) ≠ s.part - 1 → b = x.2) := by
 unfold Pg.edited
 split
 ·exact ⟨rfl, rfl, rfl, fun h => by omega, fun i x hx => ⟨x.2, hx, fun _ => rfl⟩⟩
 ·split
  ·rename_i h y hy
   refine ⟨rfl, rfl, by simp, fun _ => rfl, fun i x hx => ?_⟩
   by_cases hi : i = (s.part - 1).toNat
   ·subst hi
    rw [hx] at hy
    obtain rfl := Option.some.inj hy
    exact ⟨_, List.getElem?_set_self (get_len hx), fun hne => by omega⟩
   ·exact ⟨x.2, by rw [List.getElem?_set_ne (fun e => hi e.symm)]; exact hx, fun _ => rfl⟩
  ·exact ⟨rfl, rfl, rfl, fun _ => rfl, fun i x hx => ⟨x.2, hx, fun _ => rfl⟩⟩
theorem one_loop0 (p q : Pg) (hp : p.size ≤ 1000) (s : Si) (hf : s.fit) (hrest : q.procs.length = p.procs.length ∧ ∀ (i : Nat) (x : List UInt8 × List Sm), p.procs[i]? = some x → ∃ b, q.procs[i]? = some (x.1, b) ∧ ((i : Int) ≠ s.part - 1 → b = x.2)) (v7 v9 v10 : V) (Q : Option (V × Heap) → Prop) (k : List Item)
  (hexit : ∀ φ', Fr.get φ' 2 = .ptr 0 0 → Fr.get φ' 3 = .ptr 1 0 → Fr.get φ' 5 = .ptr 2 0 → Fr.get φ' 7 = v7 → Fr.get φ' 9 = v9 → Fr.get φ' 10 = v10 → Q (M (eval tbl noExt) k φ' [some p.cells, some s.cells, some q.cells])) :
  ∀ (j i : Nat) (φ : Fr), i + j = p.procs.length → Fr.get φ 2 = .ptr 0 0 → Fr.get φ 3 = .ptr 1 0 → Fr.get φ 5 = .ptr 2 0 → Fr.get φ 7 = v7 → Fr.get φ 9 = v9 → Fr.get φ 10 = v10 → Fr.get φ 11 = .int .i64 i →
   Q (M (eval tbl noExt) (.code l_flotsamlaw26_RewriteOne_w_0 :: .blk 0 :: k) φ [some p.cells, some s.cells, some q.cells]) := by
 have hpc : p.cells = [.sl 2 p.pcells, .sl 7 (Sm.rows p.main), .sl 7 (Sm.rows p.recover), .sl 5 p.ocells] := rfl
 have hqc : q.cells = [.sl 2 q.pcells, .sl 7 (Sm.rows q.main), .sl 7 (Sm.rows q.recover), .sl 5 q.ocells] := rfl
 have hpl := p.pcells_len
 have hql := q.pcells_len
 have c1 := Si.c1 (s := s)
 have q1 := Si.len hf.1
 have gb : ∀ h : 1 < s.cells.length, s.cells[1] = iv s.part := fun h => rfl
 have hs := p.size_eq
 rw [hpc, hqc] at hexit ⊢
 intro j
 induction j with
 | zero =>
  intro i φ hj h2 h3 h5 h7 h9 h10 h11
  have hlt : ¬ ((i : Int) < p.procs.length) := by omega
  rw [l_flotsamlaw26_RewriteOne_w_0, M_loop, ← l_flotsamlaw26_RewriteOne_w_0]
  simp [b_flotsamlaw26_RewriteOne_w_0, h2, h3, h5, h11, hpl, hlt]
  exact hexit _ (by simp [h2]) (by simp [h3]) (by simp [h5]) (by simp [h7]) (by simp [h9]) (by simp [h10])
 | succ j ih =>
  intro i φ hj h2 h3 h5 h7 h9 h10 h11
  have hlt : (i : Int) < p.procs.length := by omega
  have hil : i < p.procs.length := by omega
  obtain ⟨e, he⟩ : ∃ e, p.procs[i]? = some e := ⟨_, List.getElem?_eq_getElem hil⟩
  obtain ⟨b, hb, hbe⟩ := hrest.2 i e he
  have hrow := Pg.prow he
  have hrow2 : ∀ h : i < p.pcells.length, p.pcells[i] = [.str e.1, .sl 7 (Sm.rows e.2)] := fun h => by
   rw [List.getElem?_eq_getElem h] at hrow; exact Option.some.inj hrow
  have hrq := Pg.prow hb
  have hrq2 : ∀ h : i < q.pcells.length, q.pcells[i] = [.str e.1, .sl 7 (Sm.rows b)] := fun h => by
   rw [List.getElem?_eq_getElem h] at hrq; exact Option.some.inj hrq
  have hlq : (i : Int) < q.procs.length := by rw [hrest.1]; exact hlt
  have hlq2 : i < q.procs.length := by rw [hrest.1]; exact hil
  have hw : IntKind.i64.wrap ((i : Int) + 1) = ((i + 1 : Nat) : Int) := by rw [w64 (by omega) (by omega)]; rfl
  have hes : Sm.sizes e.2 ≤ 1000 := by have := p.cntP_at he; omega
  have hsm := SameStmts_eq e.2 e.2 (by have := Sm.sizes_ge e.2; omega) (fun x hx => by have := Sm.sizes_mem hx; omega)
  rw [Sm.sames_rfl] at hsm
  rw [l_flotsamlaw26_RewriteOne_w_0, M_loop, ← l_flotsamlaw26_RewriteOne_w_0]
  by_cases hm : (i : Int) = IntKind.i64.wrap (s.part - 1)
  ·simp [b_flotsamlaw26_RewriteOne_w_0, h2, h3, h5, h11, hpl, hql, hlt, hil, hlq, hlq2, hrow, hrow2, hrq, hrq2, c1, gb, q1, ← hm, hw]
   refine ih (i + 1) _ (by omega) ?_ ?_ ?_ ?_ ?_ ?_ ?_ <;> simp [h2, h3, h5, h7, h9, h10]
  ·have hbe' : b = e.2 := hbe fun h => hm (by
    have := fit_range hf.2.2.1
    rw [w64 (by omega) (by omega), h])
   subst hbe'
   simp [b_flotsamlaw26_RewriteOne_w_0, h2, h3, h5, h11, hpl, hql, hlt, hil, hlq, hlq2, hrow, hrow2, hrq, hrq2, c1, gb, q1, hm, hw, hsm]
   refine ih (i + 1) _ (by omega) ?_ ?_ ?_ ?_ ?_ ?_ ?_ <;> simp [h2, h3, h5, h7, h9, h10]
theorem one_loop1 (W b : List Sm) (n : Nat) (s : Si) (cap : Nat) (junk : List V) (K : Heap) (hK1 : K[1]? = some (some s.cells)) (hK3 : K[3]? = some (some ((Sm.rows W).flatten ++ junk))) (hl : W.length = b.length) (hbl : b.length ≤ 20000) (hbs : ∀ x ∈ W, x.size ≤ 20000)
  (hsame : ∀ i x y, W[i]? = some x → b[i]? = some y → x.bare = y.bare ∨ (i = n ∧ s.kind = 7)) (Q : Option (V × Heap) → Prop) (k : List Item) (hexit : ∀ φ', Q (M (eval tbl noExt) k φ' K)) :
  ∀ (j i : Nat) (φ : Fr), i + j = W.length → Fr.get φ 3 = .ptr 1 0 → Fr.get φ 7 = .int .i64 n → Fr.get φ 10 = .sl 7 (Sm.rows b) → Fr.get φ 12 = .ms 3 0 W.length cap → Fr.get φ 13 = .int .i64 i →
   Q (M (eval tbl noExt) (.code l_flotsamlaw26_RewriteOne_w_1 :: .blk 3 :: k) φ K) := by
 have hrw := Sm.rows_w W
 have hrlb := Sm.rows_len b
 have q0 := Si.c0 (s := s)
 intro j
 induction j with
 | zero =>
  intro i φ hj h3 h7 h10 h12 h13
  have hlt : ¬ ((i : Int) < W.length) := by omega
  rw [l_flotsamlaw26_RewriteOne_w_1, M_loop, ← l_flotsamlaw26_RewriteOne_w_1]
  simp [b_flotsamlaw26_RewriteOne_w_1, h3, h7, h10, h12, h13, hlt]
  exact hexit _
 | succ j ih =>
  intro i φ hj h3 h7 h10 h12 h13
  have hlt : (i : Int) < W.length := by omega
  have hil : i < W.length := by omega
  have hlb : (i : Int) < b.length := by omega
  have hilb : i < b.length := by omega
  obtain ⟨x, hx⟩ : ∃ x, W[i]? = some x := ⟨_, List.getElem?_eq_getElem hil⟩
  obtain ⟨y, hy⟩ : ∃ y, b[i]? = some y := ⟨_, List.getElem?_eq_getElem hilb⟩
  have hrow := Sm.rows_at hx
  have hrowy := Sm.rows_at hy
  have hrowy2 : ∀ h : i < (Sm.rows b).length, (Sm.rows b)[i] = y.cells := fun h => by
   rw [List.getElem?_eq_getElem h] at hrowy; exact Option.some.inj hrowy
  have htake := row_take hrw hrow junk
  have hroom := flat_room hrw hrow
  have hstrip : x.cells.map V.strip = x.cells := x.strips.2
  have htk : ((((Sm.rows W).flatten ++ junk).map V.strip).drop (i * 7)).take 7 = x.cells := by rw [← List.map_drop, ← List.map_take, htake, hstrip]
  have hlen : i * 7 + 7 ≤ ((Sm.rows W).flatten ++ junk).length := by rw [List.length_append]; omega
  obtain ⟨cs, hcs⟩ : ∃ cs, cs = (Sm.rows W).flatten ++ junk := ⟨_, rfl⟩
  rw [← hcs] at htk hlen
  have hK3' : K[3]? = some (some cs) := by rw [hcs]; exact hK3
  have hw : IntKind.i64.wrap ((i : Int) + 1) = ((i + 1 : Nat) : Int) := by rw [w64 (by omega) (by omega)]; rfl
  have hb1 := bare_eq x
  have hb2 := bare_eq y
  have hsz := hbs x (List.mem_of_getElem? hx)
  have hss := SameStmt_eq 20000 x.bare y.bare (by have := bare_size x; omega) (Nat.le_refl _)
  have hyl : y.cells.length = 7 := y.strips.1
  have hys : y.cells.map V.strip = y.cells := y.strips.2
  have hyt : y.cells.take 7 = y.cells := List.take_of_length_le (by omega)
  obtain ⟨a0, a1, a2, a3, a4, a5, a6, hc1⟩ := Sm.cells_shape x.bare
  obtain ⟨d0, d1, d2, d3, d4, d5, d6, hc2⟩ := Sm.cells_shape y.bare
  obtain ⟨f0, f1, f2, f3, f4, f5, f6, hc3⟩ := Sm.cells_shape x
  obtain ⟨g0, g1, g2, g3, g4, g5, g6, hc4⟩ := Sm.cells_shape y
  rw [hc1] at hb1
  rw [hc2] at hb2
  rw [hc1, hc2] at hss
  rw [hc3] at hb1 htk
  rw [hc4] at hb2 hrowy hrowy2 hyl hys hyt
  rw [l_flotsamlaw26_RewriteOne_w_1, M_loop, ← l_flotsamlaw26_RewriteOne_w_1]
  cases hsm : x.bare.same y.bare with
  | true =>
   rw [hsm] at hss
   simp [-List.length_flatten, b_flotsamlaw26_RewriteOne_w_1, h3, h7, h10, h12, h13, hlt, hil, hlb, hilb, hK1, hK3', hrlb, hrowy, hrowy2, htk, hlen, hb1, hb2, hss, hw]
   refine ih (i + 1) _ (by omega) ?_ ?_ ?_ ?_ ?_ <;> simp [h3, h7, h10, h12]
  | false =>
   rw [hsm] at hss
   obtain ⟨hin, hk7⟩ := (hsame i x y hx hy).resolve_left (fun e => by rw [e, Sm.same_rfl] at hsm; cases hsm)
   rw [hk7] at q0
   have ga : ∀ h : 0 < s.cells.length, s.cells[0] = iv 7 := fun h => by
    rw [List.getElem?_eq_getElem h] at q0; exact Option.some.inj q0
   subst hin
   simp [-List.length_flatten, b_flotsamlaw26_RewriteOne_w_1, h3, h7, h10, h12, h13, hlt, hil, hlb, hilb, hK1, hK3', hrlb, hrowy, hrowy2, htk, hlen, hb1, hb2, hss, hw, q0, ga]
   refine ih (i + 1) _ (by omega) ?_ ?_ ?_ ?_ ?_ <;> simp [h3, h7, h10, h12]
set_option maxHeartbeats 8000000
theorem flat_put {a : List Sm} {n : Nat} {z : Sm} (hz : a[n]? = some z) (y : Sm) : setMany (Sm.rows a).flatten (n * 7) y.cells = (Sm.rows (a.set n y)).flatten := by
 obtain ⟨A, B, rfl, hA⟩ := split_row hz
 have e1 : (Sm.rows (A ++ z :: B)).flatten = (Sm.rows A).flatten ++ (z.cells ++ (Sm.rows B).flatten) := by simp [Sm.rows_eq]
 have e2 : (Sm.rows A).flatten.length = n * 7 := by rw [flat_len (Sm.rows_w A), Sm.rows_len, hA]
 rw [e1, ← e2, setMany_mid _ _ _ _ (by rw [z.strips.1, y.strips.1]), set_mid hA]
 simp [Sm.rows_eq]
theorem flat_swap {a : List Sm} {n : Nat} {z y : Sm} (hz : a[n]? = some z) (hy : a[n + 1]? = some y) : setMany (setMany (Sm.rows a).flatten (n * 7) y.cells) ((n + 1) * 7) z.cells = (Sm.rows (swapAt a n)).flatten := by
 have h1 : (a.set n y)[n + 1]? = some y := by rw [List.getElem?_set_ne (by omega), hy]
 rw [flat_put hz y, flat_put h1 z]
 unfold swapAt
 rw [hz, hy]
theorem flat_cut {a : List Sm} {n : Nat} {z : Sm} (hz : a[n]? = some z) : ∃ Z : List V, setMany (Sm.rows a).flatten (n * 7) ((Sm.rows a).drop (n + 1)).flatten = (Sm.rows (a.eraseIdx n)).flatten ++ Z := by
 obtain ⟨A, B, rfl, hA⟩ := split_row hz
 have e1 : (Sm.rows (A ++ z :: B)).flatten = (Sm.rows A).flatten ++ (z.cells ++ (Sm.rows B).flatten) := by simp [Sm.rows_eq]
 have e2 : (Sm.rows A).flatten.length = n * 7 := by rw [flat_len (Sm.rows_w A), Sm.rows_len, hA]
 have e3 : (Sm.rows (A ++ z :: B)).drop (n + 1) = Sm.rows B := by
  rw [Sm.rows_eq, Sm.rows_eq, ← List.map_drop, List.drop_append, List.drop_eq_nil_of_le (by omega), show n + 1 - A.length = 1 by omega]; rfl
 have hl : z.cells.length = 7 := z.strips.1
 refine ⟨(z.cells ++ (Sm.rows B).flatten).drop (Sm.rows B).flatten.length, ?_⟩
 have e : (Sm.rows A).flatten ++ (z.cells ++ (Sm.rows B).flatten) = (Sm.rows A).flatten ++ ((z.cells ++ (Sm.rows B).flatten).take (Sm.rows B).flatten.length ++ (z.cells ++ (Sm.rows B).flatten).drop (Sm.rows B).flatten.length) := by
  rw [List.take_append_drop]
 rw [e1, e3, e, ← e2, setMany_mid _ _ _ _ (by rw [List.length_take, List.length_append]; omega), eraseIdx_mid hA]
 simp [Sm.rows_eq]
theorem rowsS_plain (l : List Sm) : ((Sm.rows l).all fun r => r.all V.plain) = true := by
 rw [List.all_eq_true]
 intro r hr
 rw [Sm.rows_eq] at hr
 obtain ⟨e, _, rfl⟩ := List.mem_map.1 hr
 cases e; rfl
theorem Sm.flat_one (l : List Sm) : (Sm.rows l).flatten.all V.one = true := by
 rw [List.all_eq_true]
 intro v hv
 obtain ⟨r, hr, hv⟩ := List.mem_flatten.1 hv
 rw [Sm.rows_eq] at hr
 obtain ⟨e, _, rfl⟩ := List.mem_map.1 hr
 cases e
 simp only [Sm.cells, List.mem_cons, List.not_mem_nil, or_false] at hv
 rcases hv with rfl | rfl | rfl | rfl | rfl | rfl | rfl <;> rfl
def oneA : AC := match r_flotsamlaw26_RewriteOne_w_1 with
 | .seq a _ => a
 | _ => .skip
def oneApp : AC := match r_flotsamlaw26_RewriteOne_w_1 with
 | .seq _ (.seq b _) => b
 | _ => .skip
def oneBlk : AC := match r_flotsamlaw26_RewriteOne_w_1 with
 | .seq _ (.seq _ (.seq c _)) => c
 | _ => .skip
def oneC : AC := match r_flotsamlaw26_RewriteOne_w_1 with
 | .seq _ (.seq _ (.seq _ d)) => d
 | _ => .skip
theorem one_split : r_flotsamlaw26_RewriteOne_w_1 = .seq oneA (.seq oneApp (.seq oneBlk oneC)) := rfl
theorem one_end (W b : List Sm) (n : Nat) (s : Si) (cap : Nat) (junk : List V) (K : Heap) (hK1 : K[1]? = some (some s.cells)) (hK3 : K[3]? = some (some ((Sm.rows W).flatten ++ junk))) (hl : W.length = b.length) (hbl : b.length ≤ 20000) (hbs : ∀ x ∈ W, x.size ≤ 20000)
  (hsame : ∀ i x y, W[i]? = some x → b[i]? = some y → x.bare = y.bare ∨ (i = n ∧ s.kind = 7)) (φ : Fr) (f3 : Fr.get φ 3 = .ptr 1 0) (f7 : Fr.get φ 7 = .int .i64 n) (f10 : Fr.get φ 10 = .sl 7 (Sm.rows b)) (f12 : Fr.get φ 12 = .ms 3 0 W.length cap) :
  ∃ H', M (eval tbl noExt) [.code oneC, .wfn [.t 4]] φ K = some (.bool true, H') := by
 have hrlb := Sm.rows_len b
 simp [oneC, r_flotsamlaw26_RewriteOne_w_1, f3, f7, f10, f12, hrlb, hl]
 refine one_loop1 W b n s cap junk K hK1 hK3 hl hbl hbs hsame (fun o => ∃ H', o = some (.bool true, H')) _ (fun φ' => ?_) W.length 0 _ (by omega) ?_ ?_ ?_ ?_ ?_
 ·exact ⟨K, by simp [r_flotsamlaw26_RewriteOne_w_0]⟩
 all_goals simp [f3, f7, f10, f12, hl]
theorem setOp_size (z : Sm) (o : Int) : (z.setOp o).size = z.size := by cases z; rfl
theorem unmark_size (z : Sm) : z.unmark.size = z.size := by cases z; rfl
theorem flat_cell {a : List Sm} {n : Nat} {z : Sm} (hz : a[n]? = some z) (j : Nat) (hj : j < 7) (c : V) (y : Sm) (hy : y.cells = z.cells.set j c) : (Sm.rows a).flatten.set (n * 7 + j) c = (Sm.rows (a.set n y)).flatten := by
 rw [flat_set (Sm.rows_w a) (Sm.rows_at hz) j hj c, Sm.rows_eq, Sm.rows_eq, List.map_set, hy]
theorem one_want (a b : List Sm) (n : Nat) (s : Si) (hok : s.ok) (hn : n < a.length) (hn5 : s.kind = 5 → n + 1 < a.length) (hal : a.length ≤ 600) (hbl : b.length ≤ 600) (has : ∀ x ∈ a, x.size ≤ 600) (hkk : s.kind = 1 ∨ s.kind = 2 ∨ s.kind = 3 ∨ s.kind = 4 ∨ s.kind = 5 ∨ s.kind = 6 ∨ s.kind = 7 ∨ s.kind = 8)
  (hl : (wantOf s.kind a n).length = b.length) (hsame : ∀ i x y, (wantOf s.kind a n)[i]? = some x → b[i]? = some y → x.bare = y.bare ∨ (i = n ∧ s.kind = 7)) (c0 c2 : Option (List V)) (φ : Fr) (f3 : Fr.get φ 3 = .ptr 1 0) (f7 : Fr.get φ 7 = .int .i64 n) (f9 : Fr.get φ 9 = .sl 7 (Sm.rows a)) (f10 : Fr.get φ 10 = .sl 7 (Sm.rows b)) :
  ∃ H', M (eval tbl noExt) [.code oneApp, .code (.seq oneBlk oneC), .wfn [.t 4]] φ [c0, some s.cells, c2] = some (.bool true, H') := by
 have q0 := Si.c0 (s := s)
 have ga : ∀ h : 0 < s.cells.length, s.cells[0] = iv s.kind := fun h => rfl
 have q1 := Si.len hok
 obtain ⟨z, hz⟩ : ∃ z, a[n]? = some z := ⟨_, List.getElem?_eq_getElem hn⟩
 have hrow := Sm.rows_at hz
 have hrow2 : ∀ h : n < (Sm.rows a).length, (Sm.rows a)[n] = z.cells := fun h => by
  rw [List.getElem?_eq_getElem h] at hrow; exact Option.some.inj hrow
 have hrl := Sm.rows_len a
 have hF := flat_len (Sm.rows_w a)
 rw [hrl] at hF
 have p1 := rowsS_plain a
 have t7 : Sm.rows a ≠ [] := fun h => by rw [h] at hrow; simp at hrow
 have e9 : 2 * a.length * 112 ≤ 281474976710656 := by omega
 have k0 : chunk 7 [] 0 0 = ([] : List (List V)) := rfl
 have hdr := drops_eq s.kind
 have i1 : (n : Int) < a.length := by omega
 have i2 : (n : Int) ≤ a.length := by omega
 have hwn : IntKind.i64.wrap ((n : Int) + 1) = (n : Int) + 1 := by rw [w64] <;> omega
 have i3 : (0 : Int) ≤ (n : Int) + 1 := by omega
 have i4 : (n : Int) + 1 ≤ a.length := by omega
 have i5 : ((n : Int) + 1).toNat = n + 1 := by omega
 have htk : (Sm.rows a).take a.length = Sm.rows a := List.take_of_length_le (by omega)
 have m1 : n * 7 + 7 ≤ a.length * 7 := by omega
 have m2 : n * 7 + 1 ≤ a.length * 7 := by omega
 have m3 : n * 7 + 6 + 1 ≤ a.length * 7 := by omega
 obtain ⟨F, hFF⟩ : ∃ F, (Sm.rows a).flatten = F := ⟨_, rfl⟩
 rw [hFF] at hF
 have hcut : (s.kind = 1 ∨ s.kind = 3 ∨ s.kind = 4 ∨ s.kind = 8) → ∃ H', M (eval tbl noExt) [.code oneApp, .code (.seq oneBlk oneC), .wfn [.t 4]] φ [c0, some s.cells, c2] = some (.bool true, H') := fun hd => by
  have hw : wantOf s.kind a n = a.eraseIdx n := by unfold wantOf; rw [if_pos hd]
  rw [hw] at hl hsame
  rw [decide_eq_true hd] at hdr
  obtain ⟨Z, hZ⟩ := flat_cut hz
  rw [hFF] at hZ
  have hel : (a.eraseIdx n).length = a.length - 1 := by rw [List.length_eraseIdx]; simp [hn]
  have d1 : n + (a.length - (n + 1)) = a.length - 1 := by omega
  have d2 : a.length - 1 ≤ a.length := by omega
  have d3 : (a.length - 1) * 7 ≤ a.length * 7 := by omega
  have hone : ((Sm.rows a).drop (n + 1)).flatten.all V.one = true := by
   rw [Sm.rows_eq, ← List.map_drop, ← Sm.rows_eq]; exact Sm.flat_one _
  obtain ⟨D, hD⟩ : ∃ D, ((Sm.rows a).drop (n + 1)).flatten = D := ⟨_, rfl⟩
  rw [hD] at hZ hone
  simp [-List.all_eq_true, -List.length_flatten, -setMany, -chunk, oneApp, oneBlk, r_flotsamlaw26_RewriteOne_w_1, f3, f7, f9, f10, k0, hrl, hFF, hF, p1, t7, e9, q0, ga, q1, hdr, i1, i2, i3, i4, i5, hwn, htk, hD, hone, hZ, d1, d2, d3, appM]
  refine one_end (a.eraseIdx n) b n s a.length Z _ rfl rfl hl (by omega) (fun x hx => by have := has x (List.mem_of_mem_eraseIdx hx); omega) hsame _ ?_ ?_ ?_ ?_ <;> simp [f3, f7, f10, hel]
 have hnw : ∀ {kd : Int}, s.kind = kd → ¬ (kd = 1 ∨ kd = 3 ∨ kd = 4 ∨ kd = 8) → decide (s.kind = 1 ∨ s.kind = 3 ∨ s.kind = 4 ∨ s.kind = 8) = false := fun h h' => decide_eq_false (by rw [h]; exact h')
 rcases hkk with hk | hk | hk | hk | hk | hk | hk | hk
 ·exact hcut (by omega)
 ·rw [hnw hk (by omega)] at hdr
  have hw : wantOf s.kind a n = a.set n (z.setOp 9) := by unfold wantOf; rw [hk, hz]; rfl
  rw [hw] at hl hsame
  rw [hk] at q0 ga hdr
  have hc := flat_cell hz 0 (by omega) (.int .i64 9) (z.setOp 9) (by cases z; rfl)
  rw [Nat.add_zero, hFF] at hc
  simp [-List.all_eq_true, -List.length_flatten, -setMany, -chunk, oneApp, oneBlk, r_flotsamlaw26_RewriteOne_w_1, f3, f7, f9, f10, k0, hrl, hFF, hF, p1, t7, e9, q0, ga, q1, hdr, i1, i2, i3, i4, i5, hwn, m2, setMany, hc]
  refine one_end (a.set n (z.setOp 9)) b n s a.length [] _ rfl (by simp) hl (by omega) (fun x hx => ?_) hsame _ ?_ ?_ ?_ ?_
  ·rcases List.mem_or_eq_of_mem_set hx with h | rfl
   ·have := has x h; omega
   ·have := has z (List.mem_of_getElem? hz); rw [setOp_size]; omega
  all_goals simp [f3, f7, f10]
 ·exact hcut (by omega)
 ·exact hcut (by omega)
 ·-- exchanged
  rw [hnw hk (by omega)] at hdr
  have hn1 := hn5 hk
  obtain ⟨y, hy⟩ : ∃ y, a[n + 1]? = some y := ⟨_, List.getElem?_eq_getElem hn1⟩
  have hw : wantOf s.kind a n = swapAt a n := by unfold wantOf; rw [hk]; simp [hn1]
  rw [hw] at hl hsame
  rw [hk] at q0 ga hdr
  have hrowy := Sm.rows_at hy
  have hrowy2 : ∀ h : n + 1 < (Sm.rows a).length, (Sm.rows a)[n + 1] = y.cells := fun h => by
   rw [List.getElem?_eq_getElem h] at hrowy; exact Option.some.inj hrowy
  have j1 : (n : Int) + 1 < a.length := by omega
  have j2 : (n + 1) * 7 + 7 ≤ a.length * 7 := by omega
  have hsw := flat_swap hz hy
  rw [hFF] at hsw
  have hsl : (swapAt a n).length = a.length := by unfold swapAt; rw [hz, hy]; simp
  have hlen1 : ∀ vs off, (setMany F off vs).length = a.length * 7 := fun vs off => by rw [setMany_length, hF]
  obtain ⟨z0, z1, z2, z3, z4, z5, z6, hzc⟩ := Sm.cells_shape z
  obtain ⟨y0, y1, y2, y3, y4, y5, y6, hyc⟩ := Sm.cells_shape y
  rw [hzc] at hrow hrow2 hsw
  rw [hyc] at hrowy hrowy2 hsw
  simp [-List.all_eq_true, -List.length_flatten, -setMany, -chunk, oneApp, oneBlk, r_flotsamlaw26_RewriteOne_w_1, f3, f7, f9, f10, k0, hrl, hFF, hF, p1, t7, e9, q0, ga, q1, hdr, i1, i2, i3, i4, i5, hwn, m1, hrow, hrow2, hrowy, hrowy2, j1, j2, hn1, hlen1, hsw]
  refine one_end (swapAt a n) b n s a.length [] _ rfl (by simp) hl (by omega) (fun x hx => ?_) hsame _ ?_ ?_ ?_ ?_
  ·have : x ∈ a := by
    unfold swapAt at hx
    rw [hz, hy] at hx
    rcases List.mem_or_eq_of_mem_set hx with h | rfl
    ·rcases List.mem_or_eq_of_mem_set h with h | rfl
     ·exact h
     ·exact List.mem_of_getElem? hy
    ·exact List.mem_of_getElem? hz
   have := has x this; omega
  all_goals simp [f3, f7, f10, hsl]
 ·rw [hnw hk (by omega)] at hdr
  have hw : wantOf s.kind a n = a.set n z.unmark := by unfold wantOf; rw [hk, hz]; rfl
  rw [hw] at hl hsame
  rw [hk] at q0 ga hdr
  have hc := flat_cell hz 6 (by omega) (.bool false) z.unmark (by cases z; rfl)
  rw [hFF] at hc
  simp [-List.all_eq_true, -List.length_flatten, -setMany, -chunk, oneApp, oneBlk, r_flotsamlaw26_RewriteOne_w_1, f3, f7, f9, f10, k0, hrl, hFF, hF, p1, t7, e9, q0, ga, q1, hdr, i1, i2, i3, i4, i5, hwn, m3, setMany, hc]
  refine one_end (a.set n z.unmark) b n s a.length [] _ rfl (by simp) hl (by omega) (fun x hx => ?_) hsame _ ?_ ?_ ?_ ?_
  ·rcases List.mem_or_eq_of_mem_set hx with h | rfl
   ·have := has x h; omega
   ·have := has z (List.mem_of_getElem? hz); rw [unmark_size]; omega
  all_goals simp [f3, f7, f10]
 ·rw [hnw hk (by omega)] at hdr
  have hw : wantOf s.kind a n = a := by unfold wantOf; rw [hk]; simp
  rw [hw] at hl hsame
  rw [hk] at q0 ga hdr
  simp [-List.all_eq_true, -List.length_flatten, -setMany, -chunk, oneApp, oneBlk, r_flotsamlaw26_RewriteOne_w_1, f3, f7, f9, f10, k0, hrl, hFF, hF, p1, t7, e9, q0, ga, q1, hdr, i1, i2, i3, i4, i5, hwn]
  refine one_end a b n s a.length [] _ rfl (by simp [hFF]) hl (by omega) (fun x hx => by have := has x hx; omega) hsame _ ?_ ?_ ?_ ?_ <;> simp [f3, f7, f10]
 ·exact hcut (by omega)
theorem RewriteOne_eq (p : Pg) (_ : p.fit) (s : Si) (hf : s.fit) : ∃ H', eval tbl noExt (wNo n_flotsamlaw26_RewriteOne) [.agg p.cells, .agg s.cells] [] = some (.bool true, H') := by
 obtain ⟨b, hb, hs⟩ := Small_eq p
 have ok := hf.1
 have hcp : p.cells.length = 4 := rfl
 have hcpt : p.cells.take 4 = p.cells := rfl
 have hcps : p.cells.map V.strip = p.cells := rfl
 have hcpu : ∀ n, V.underAll n p.cells = true := fun n => rfl
 have hcpo : p.cells.all V.one = true := rfl
 have q0 := Si.c0 (s := s)
 have ga : ∀ h : 0 < s.cells.length, s.cells[0] = iv s.kind := fun h => rfl
 have c1 := Si.c1 (s := s)
 have gb : ∀ h : 1 < s.cells.length, s.cells[1] = iv s.part := fun h => rfl
 have q1 := Si.len ok
 have q3 := Si.strip (s := s)
 have q5 := Si.take ok
 have qu := fun n => Si.under (s := s) n
 rw [eval_W tw_flotsamlaw26_RewriteOne rfl]
 cases b with
 | false => simp [c_flotsamlaw26_RewriteOne_w, hcp, hcpt, hcps, hcpu, hb, knows26o]
 | true =>
  obtain ⟨hsz, htx⟩ := hs rfl
  obtain ⟨K1, h1⟩ := ApplyW p (by omega) htx s hf
  have h2 := Number_eq p (by omega) s hf
  have h3 := Fits_eq p (by omega) s hf
  obtain ⟨nn, hnn⟩ : ∃ nn : Nat, nn = (if (leadOf p s).isEmpty then 0 else numOf p s) := ⟨_, rfl⟩
  rw [← hnn] at h2
  cases hv : fitsOf s.kind (leadOf p s) with
  | false =>
   rw [hv] at h1 h3
   unfold Pg.applied at h1
   rw [hv, if_neg (by simp)] at h1
   have hz : zeroPg.cells = [.sl 2 [], .sl 7 [], .sl 7 [], .sl 5 []] := rfl
   have h4 := refSame_eq zeroPg (Nat.zero_le _)
   rw [hz] at h1 h4
   simp [c_flotsamlaw26_RewriteOne_w, hcp, hcpt, hcps, hcpu, hb, knows26o, q1, q3, q5, qu, h1, h2, h3, h4]
  | true =>
   rw [hv] at h1
   unfold Pg.applied at h1
   rw [hv, if_pos rfl] at h1
   have hne : (leadOf p s).isEmpty = false := by
    cases hl : leadOf p s with
    | nil => rw [hl] at hv; simp [fitsOf] at hv
    | cons _ _ => rfl
   rw [hne] at h2 hnn
   simp only [Bool.not_false] at h2
   rw [if_neg (by simp)] at hnn
   have hR := Right_eq p ⟨by omega, htx⟩ []
   obtain ⟨r1, r2, r3, r4, r5⟩ := edited_rest p s
   have hes := p.edited_size s
   have hallp := All_eq p (by omega)
   have hallq := All_eq (p.edited s) (by omega)
   cases hok : p.ok with
   | false =>
    rw [hok] at hR
    have hqc : (p.edited s).cells = [.sl 2 (p.edited s).pcells, .sl 7 (Sm.rows (p.edited s).main), .sl 7 (Sm.rows (p.edited s).recover), .sl 5 (p.edited s).ocells] := rfl
    rw [hqc] at h1
    simp [c_flotsamlaw26_RewriteOne_w, hcp, hcpt, hcps, hcpu, hb, knows26o, q1, q3, q5, qu, h1, h2, hR]
   | true =>
    rw [hok] at hR
    obtain ⟨w1, w2, w3, w4⟩ := want_is hok hv
    have hkk := fits_kind hv
    have hfs := Sm.flats_sizes p.parts.flatten
    have hps := p.parts_size
    have hfl : p.flats.length ≤ 600 := by unfold Pg.flats; omega
    have hqs := (p.edited s).parts_size
    have hqfs := Sm.flats_sizes (p.edited s).parts.flatten
    have hql : (p.edited s).flats.length ≤ 600 := by unfold Pg.flats; omega
    have hsize : ∀ x ∈ p.flats, x.size ≤ 600 := fun x hx => by
     have := Sm.flats_mem p.parts.flatten x hx; omega
    have hrs : Sm.sizes p.recover ≤ 600 := by have := p.size_eq; omega
    have hms : Sm.sizes p.main ≤ 600 := by have := p.size_eq; omega
    have hsr := SameStmts_eq p.recover p.recover (by have := Sm.sizes_ge p.recover; omega) (fun x hx => by have := Sm.sizes_mem hx; omega)
    rw [Sm.sames_rfl] at hsr
    have hsmn := SameStmts_eq p.main p.main (by have := Sm.sizes_ge p.main; omega) (fun x hx => by have := Sm.sizes_mem hx; omega)
    rw [Sm.sames_rfl] at hsmn
    have hso := refSame_eq ⟨[], [], [], p.oracles⟩ (by have := p.size_eq; simp [Pg.size, Pg.psize, Pg.osize, Sm.sizes] at this ⊢; have h := hsz; simp [Pg.size, Pg.psize, Pg.osize] at h; omega)
    have hoc : Pg.cells ⟨[], [], [], p.oracles⟩ = [.sl 2 [], .sl 7 [], .sl 7 [], .sl 5 p.ocells] := rfl
    rw [hoc] at hso
    obtain ⟨q, hq⟩ : ∃ q, q = p.edited s := ⟨_, rfl⟩
    rw [← hq] at h1 hallq w3 w4 hql r1 r2 r3 r4 r5
    have hqo : q.ocells = p.ocells := by unfold Pg.ocells; rw [r2]
    have hqc : q.cells = [.sl 2 q.pcells, .sl 7 (Sm.rows q.main), .sl 7 (Sm.rows p.recover), .sl 5 p.ocells] := by rw [← r1, ← hqo]; rfl
    have hpc : p.cells = [.sl 2 p.pcells, .sl 7 (Sm.rows p.main), .sl 7 (Sm.rows p.recover), .sl 5 p.ocells] := rfl
    have hpl := p.pcells_len
    have hqpl : q.pcells.length = p.procs.length := by rw [q.pcells_len, r3]
    rw [← hnn] at w1 w2 w3 w4
    have n1 : ¬ (nn : Int) < 0 := by omega
    have n2 : ¬ (p.flats.length : Int) ≤ nn := by omega
    have hrl := Sm.rows_len p.flats
    have hrlq := Sm.rows_len q.flats
    have key : ∀ φ, Fr.get φ 2 = .ptr 0 0 → Fr.get φ 3 = .ptr 1 0 → Fr.get φ 5 = .ptr 2 0 → Fr.get φ 7 = .int .i64 nn → Fr.get φ 9 = .sl 7 (Sm.rows p.flats) → Fr.get φ 10 = .sl 7 (Sm.rows q.flats) → Fr.get φ 11 = .int .i64 0 →
      ∃ H', M (eval tbl noExt) (.code l_flotsamlaw26_RewriteOne_w_0 :: .blk 0 :: [.code r_flotsamlaw26_RewriteOne_w_1, .wfn [.t 4]]) φ [some p.cells, some s.cells, some q.cells] = some (.bool true, H') := by
     intro φ f2 f3 f5 f7 f9 f10 f11
     refine one_loop0 p q (by omega) s hf ⟨r3, r5⟩ (.int .i64 nn) (.sl 7 (Sm.rows p.flats)) (.sl 7 (Sm.rows q.flats)) (fun o => ∃ H', o = some (.bool true, H')) _ (fun φ' g2 g3 g5 g7 g9 g10 => ?_) p.procs.length 0 φ (by omega) f2 f3 f5 f7 f9 f10 f11
     have hpart : 0 ≤ s.part := (led_parts (p := p) (s := s) (fun e => by rw [e] at hne; simp at hne)).1
     rw [one_split]
     have hfin := fun φ f3 f7 f9 f10 => one_want p.flats q.flats nn s ok w1 w2 hfl hql hsize hkk w3 w4 (some p.cells) (some q.cells) φ f3 f7 f9 f10
     by_cases h0 : s.part = 0
     ·simp [oneA, r_flotsamlaw26_RewriteOne_w_1, g2, g3, g5, c1, gb, q1, h0]
      refine hfin _ ?_ ?_ ?_ ?_ <;> simp [g3, g7, g9, g10]
     ·have hmain := r4 (by omega)
      have hqc' : q.cells = [.sl 2 q.pcells, .sl 7 (Sm.rows p.main), .sl 7 (Sm.rows p.recover), .sl 5 p.ocells] := by rw [hqc, hmain]
      rw [hpc, hqc'] at hfin ⊢
      simp [oneA, r_flotsamlaw26_RewriteOne_w_1, g2, g3, g5, c1, gb, q1, h0, hsmn]
      refine hfin _ ?_ ?_ ?_ ?_ <;> simp [g3, g7, g9, g10]
    rw [hqc] at h1 hallq key
    rw [hpc] at hb h1 h2 hR hallp key ⊢
    simp [c_flotsamlaw26_RewriteOne_w, hb, knows26o, q1, q3, q5, qu, h1, h2, hR, hallp, hallq, n1, n2, hsr, hpl, hqpl, hso, hrl, hrlq]
    exact key _ (by simp) (by simp) (by simp) (by simp) (by simp) (by simp) (by simp)
end Go.AM.Spec
