/-
  The parts of this proof that speak of the functions one by one.
-/
import Derived.Test.YtkpopdcojheniaaSpecSi
import Derived.Test.YtkpopdcojheniaaSpecTr
import Derived.Test.YtkpopdcojheniaaSpecRa
namespace Go.AM.Spec
set_option linter.unusedVariables false
set_option linter.unusedSimpArgs false
set_option maxHeartbeats 2000000
set_option maxRecDepth 10000
/-- How many statements stand ahead of the end of a way. -/
def ahN : List Sm → Nat → List Int → Nat
  | b, k, [] => (Sm.flats (b.take k)).length
  | b, k, n :: ws => match b[k]? with
    | none => 0
    | some x => (Sm.flats (b.take k)).length + 1 + (if n % 2 = 1 then (Sm.flats x.body).length else 0) + ahN (x.sub n) (n / 2).toNat ws
theorem ahN_some {b : List Sm} {k : Nat} {x : Sm} (h : b[k]? = some x) (n : Int) (ws : List Int) : ahN b k (n :: ws) = (Sm.flats (b.take k)).length + 1 + (if n % 2 = 1 then (Sm.flats x.body).length else 0) + ahN (x.sub n) (n / 2).toNat ws := by
  rw [ahN, h]
theorem take_sizes {l : List Sm} {k : Nat} {x : Sm} (h : l[k]? = some x) : Sm.sizes (l.take k) + x.size ≤ Sm.sizes l := by
  obtain ⟨A, B, rfl, hA⟩ := split_row h
  rw [List.take_left' hA]
  simp only [sizes_append, Sm.sizes]; omega
theorem take_le (l : List Sm) (k : Nat) : Sm.sizes (l.take k) ≤ Sm.sizes l := by
  have := sizes_append (l.take k) (l.drop k)
  rw [List.take_append_drop] at this; omega
theorem ahN_le : ∀ (ws : List Int) (l : List Sm) (k : Nat), ahN l k ws ≤ Sm.sizes l
  | [], l, k => by
    have := Sm.flats_sizes (l.take k)
    have := take_le l k
    rw [ahN]; omega
  | n :: ws, l, k => by
    cases hx : l[k]? with
    | none => rw [ahN, hx]; exact Nat.zero_le _
    | some x =>
      rw [ahN_some hx]
      have h1 := take_sizes hx
      have h2 := Sm.flats_sizes (l.take k)
      have h3 := ahN_le ws (x.sub n) (n / 2).toNat
      obtain ⟨op, s, m, xe, xb, xc, g⟩ := x
      have h4 := Sm.flats_sizes xb
      simp only [Sm.size] at h1
      by_cases h : n % 2 = 1
      · simp only [Sm.sub, h, if_true, Sm.els, Sm.body] at h3 ⊢; omega
      · simp only [Sm.sub, h, if_false, Sm.els, Sm.body] at h3 ⊢; omega
theorem Sm.rows_take (l : List Sm) (k : Nat) : (Sm.rows l).take k = Sm.rows (l.take k) := by simp [Sm.rows_eq, List.map_take]
theorem ahead_eq : ∀ (ws : List Int) (l : List Sm) (k : Nat) (H : Heap) (q o c : Nat) (sc : List V), H[q]? = some (some sc) → (∀ i n, ws[i]? = some n → sc[o + i]? = some (.int .i64 n)) → (∀ n ∈ ws, 0 ≤ n ∧ n < 9223372036854775808) → ws.length ≤ c →
    leadTo l k ws ≠ [] → Sm.sizes l ≤ 1000 → eval tbl noExt n_rewrite_ahead [.sl 7 (Sm.rows l), .int .i64 k, .ms q o ws.length c] H = some (.int .i64 (ahN l k ws), H)
  | [], l, k, H, q, o, c, sc, hq, hws, hpos, hc, hne, hsz => by
    have hkl : k < l.length := by
      rcases Nat.lt_or_ge k l.length with h | h
      · exact h
      · exact absurd (leadTo_none h []) hne
    have hct := Count_eq (l.take k) (by have := take_le l k; omega) []
    have hrt := Sm.rows_take l k
    have hrl := Sm.rows_len l
    have e1 : (k : Int) ≤ l.length := by omega
    rw [eval_M rfl rfl t_rewrite_ahead rfl]
    simp [c_rewrite_ahead, hrl, e1, hrt, hct, ahN]
  | n :: ws, l, k, H, q, o, c, sc, hq, hws, hpos, hc, hne, hsz => by
    cases hx : l[k]? with
    | none => exact absurd (leadTo_none (by rw [List.getElem?_eq_none_iff] at hx; exact hx) _) hne
    | some x =>
      rw [leadTo_some hx] at hne
      have hxs := take_sizes hx
      have hss := sub_size x n
      have hkl := get_len hx
      have hql := get_len hq
      have hn0 := (hpos n (by simp)).1
      have hn1 := (hpos n (by simp)).2
      have hw0 := hws 0 n rfl
      rw [Nat.add_zero] at hw0
      have hct := Count_eq (l.take k) (by have := take_le l k; omega) []
      have hrt := Sm.rows_take l k
      have hrl := Sm.rows_len l
      have hrow := Sm.rows_at hx
      have hah := ahN_le ws (x.sub n) (n / 2).toNat
      have hfl := Sm.flats_sizes (l.take k)
      have hcl : ws.length + 1 ≤ c := by simpa using hc
      have ha := bit_and hn0 hn1
      have hm : min 1 IntKind.i64.bits = 1 := by decide
      have hfd : n.fdiv 2 = n / 2 := Int.fdiv_eq_ediv_of_nonneg _ (by omega)
      have hnn : ((n / 2).toNat : Int) = n / 2 := by omega
      have e1 : (k : Int) ≤ l.length := by omega
      have e2 : (k : Int) < l.length := by omega
      have b1 : (0 : Int) < (ws.length : Int) + 1 := by omega
      have b2 : ¬ ((ws.length : Int) + 1 = 0) := by omega
      have b4 : (ws.length : Int) + 1 ≤ c := by omega
      have b5 : ((ws.length : Int) + 1).toNat = ws.length + 1 := by omega
      have b6 : (1 : Int) ≤ (ws.length : Int) + 1 := by omega
      have b7 : ¬ q = H.length := by omega
      have w1 : IntKind.i64.wrap (((Sm.flats (l.take k)).length : Int) + 1) = ((Sm.flats (l.take k)).length : Int) + 1 := by rw [w64] <;> omega
      have hrec := ahead_eq ws (x.sub n) (n / 2).toNat (H ++ [some x.cells]) q (o + 1) (c - 1) sc (by rw [List.getElem?_append_left hql, hq]) (fun j nn hj => by rw [Nat.add_assoc, Nat.add_comm 1 j]; exact hws (j + 1) nn (by simpa using hj)) (fun nn hnn => hpos nn (by simp [hnn])) (by omega) hne (by omega)
      rw [hnn] at hrec
      have hqa : ∀ X : Option (List V), (H ++ [X])[q]? = some (some sc) := fun X => by rw [List.getElem?_append_left hql, hq]
      rw [eval_M rfl rfl t_rewrite_ahead rfl, ahN_some hx]
      obtain ⟨op, s, m, xe, xb, xc, g⟩ := x
      have hcb := Count_eq xb (by simp only [Sm.size] at hxs; omega) []
      have hfb := Sm.flats_sizes xb
      simp only [Sm.size] at hxs
      by_cases hodd : n % 2 = 1
      · have hS : Sm.sub (.mk op s m xe xb xc g) n = xc := by simp [Sm.sub, hodd, Sm.els]
        rw [hS] at hrec hah
        simp only [Sm.cells] at hrow hrec
        have w2 : IntKind.i64.wrap (((Sm.flats (l.take k)).length : Int) + 1 + (Sm.flats xb).length) = ((Sm.flats (l.take k)).length : Int) + 1 + (Sm.flats xb).length := by rw [w64] <;> omega
        have w3 : IntKind.i64.wrap (((Sm.flats (l.take k)).length : Int) + 1 + (Sm.flats xb).length + ahN xc (n / 2).toNat ws) = ((Sm.flats (l.take k)).length : Int) + 1 + (Sm.flats xb).length + ahN xc (n / 2).toNat ws := by rw [w64] <;> omega
        simp [c_rewrite_ahead, hrl, e1, e2, hrt, hct, hq, hw0, hrow, b1, b2, b4, b5, b6, b7, ha, hm, hfd, hodd, w1, w2, w3, hcb, hrec, hqa, V.apart, storeOf, hS, Sm.body, get0, set0]
      · have hS : Sm.sub (.mk op s m xe xb xc g) n = xb := by simp [Sm.sub, hodd, Sm.body]
        rw [hS] at hrec hah
        simp only [Sm.cells] at hrow hrec
        have w3 : IntKind.i64.wrap (((Sm.flats (l.take k)).length : Int) + 1 + ahN xb (n / 2).toNat ws) = ((Sm.flats (l.take k)).length : Int) + 1 + ahN xb (n / 2).toNat ws := by rw [w64] <;> omega
        simp [c_rewrite_ahead, hrl, e1, e2, hrt, hct, hq, hw0, hrow, b1, b2, b4, b5, b6, b7, ha, hm, hfd, hodd, w1, w3, hcb, hrec, hqa, V.apart, storeOf, hS, Sm.body, get0, set0]
def Pg.fsts (p : Pg) (i : Nat) : List Sm := ((p.procs.take i).map (·.2)).flatten
def Pg.cntP (p : Pg) (i : Nat) : Nat := (Sm.flats (p.fsts i)).length
theorem Pg.cntP_next (p : Pg) {i : Nat} {x : List UInt8 × List Sm} (h : p.procs[i]? = some x) : p.cntP (i + 1) = p.cntP i + (Sm.flats x.2).length := by
  have : p.fsts (i + 1) = p.fsts i ++ x.2 := by simp [Pg.fsts, List.take_add_one, h]
  rw [Pg.cntP, this, Sm.flats_append, List.length_append, Pg.cntP]
theorem Pg.cntP_le (p : Pg) (i : Nat) : p.cntP i + Sm.sizes p.main ≤ p.size := by
  have h1 := Sm.flats_sizes (p.fsts i)
  have h2 : Sm.sizes (p.fsts i) ≤ Sm.sizes p.bodies.flatten := by
    have : p.bodies.flatten = p.fsts i ++ ((p.procs.drop i).map (·.2)).flatten := by
      rw [Pg.fsts, ← List.flatten_append, ← List.map_append, List.take_append_drop]; rfl
    rw [this, sizes_append]; omega
  have := p.size_eq
  unfold Pg.cntP; omega
theorem Pg.cntP_at (p : Pg) {i : Nat} {x : List UInt8 × List Sm} (h : p.procs[i]? = some x) : p.cntP i + Sm.sizes x.2 ≤ p.size := by
  have h1 := Sm.flats_sizes (p.fsts i)
  have hd : p.procs.drop i = x :: p.procs.drop (i + 1) := by
    have hl := get_len h
    rw [List.drop_eq_getElem_cons hl]
    rw [List.getElem?_eq_getElem hl] at h
    rw [Option.some.inj h]
  have : p.bodies.flatten = p.fsts i ++ (x.2 ++ ((p.procs.drop (i + 1)).map (·.2)).flatten) := by
    have e : p.bodies = (p.procs.take i).map (·.2) ++ (p.procs.drop i).map (·.2) := by rw [← List.map_append, List.take_append_drop]; rfl
    rw [e, List.flatten_append, hd]; rfl
  have h2 := p.size_eq
  rw [this, sizes_append, sizes_append] at h2
  unfold Pg.cntP; omega
/-- So many procedures stand ahead of a part. -/
def aheadP (p : Pg) (pt : Nat) : Nat := if pt = 0 then p.procs.length else pt - 1
def numOf (p : Pg) (s : Si) : Nat := p.cntP (aheadP p s.part.toNat) + ahN (p.blocks.getD s.part.toNat []) (kWay s) (nWay s)
theorem blocks_at {p : Pg} {pt : Nat} (h : pt < p.blocks.length) : (pt = 0 ∧ p.blocks.getD pt [] = p.main) ∨ ∃ x, 0 < pt ∧ p.procs[pt - 1]? = some x ∧ p.blocks.getD pt [] = x.2 := by
  rcases Nat.eq_zero_or_pos pt with rfl | h0
  · exact .inl ⟨rfl, rfl⟩
  · have hbl := p.blocks_len
    obtain ⟨x, hx⟩ : ∃ x, p.procs[pt - 1]? = some x := ⟨_, List.getElem?_eq_getElem (by omega)⟩
    refine .inr ⟨x, h0, hx, ?_⟩
    obtain ⟨m, rfl⟩ : ∃ m, pt = m + 1 := ⟨pt - 1, by omega⟩
    rw [List.getD_eq_getElem?_getD]
    simp only [Nat.add_sub_cancel] at hx
    simp [Pg.blocks, hx]
theorem numOf_le {p : Pg} {s : Si} (h0 : 0 ≤ s.part) (h1 : s.part < p.blocks.length) : numOf p s ≤ p.size := by
  unfold numOf
  have ha := ahN_le (nWay s) (p.blocks.getD s.part.toNat []) (kWay s)
  rcases blocks_at (p := p) (pt := s.part.toNat) (by omega) with ⟨e, hb⟩ | ⟨x, h2, hx, hb⟩
  · rw [hb] at ha ⊢
    have := p.cntP_le (aheadP p s.part.toNat)
    omega
  · rw [hb] at ha ⊢
    have := p.cntP_at hx
    have : aheadP p s.part.toNat = s.part.toNat - 1 := by unfold aheadP; rw [if_neg (by omega)]
    rw [this]; omega
theorem number_loop (p : Pg) (hp : p.size ≤ 1000) (s : Si) (hf : s.fit) (pt : Nat) (hpt : s.part = pt) (hptl : pt < p.blocks.length) (Q : Option (V × Heap) → Prop) (k : List Item)
    (hexit : ∀ φ' K, K[1]? = some (some s.cells) → Fr.get φ' 3 = .ptr 1 0 → Fr.get φ' 8 = .int .i64 (p.cntP (aheadP p pt)) → Fr.get φ' 9 = .sl 7 (Sm.rows (p.blocks.getD pt [])) → Q (M (eval tbl noExt) k φ' K)) :
    ∀ (j i : Nat) (φ : Fr) (K : Heap), i + j = p.procs.length → i ≤ aheadP p pt → K[1]? = some (some s.cells) → Fr.get φ 3 = .ptr 1 0 → Fr.get φ 8 = .int .i64 (p.cntP i) → Fr.get φ 9 = .sl 7 (Sm.rows p.main) → Fr.get φ 23 = .sl 2 p.pcells → Fr.get φ 24 = .int .i64 p.procs.length → Fr.get φ 25 = .int .i64 i →
      Q (M (eval tbl noExt) (.code l_rewrite_Number_0 :: .blk 0 :: k) φ K) := by
  have ok := hf.1
  have hpl := p.pcells_len
  have hbl := p.blocks_len
  have c1 := Si.c1 (s := s)
  have gb : ∀ h : 1 < s.cells.length, s.cells[1] = iv s.part := fun h => rfl
  have hs := p.size_eq
  intro j
  induction j with
  | zero =>
    intro i φ K hj hi hK h3 h8 h9 h23 h24 h25
    have hlt : ¬ ((i : Int) < p.procs.length) := by omega
    have hpt0 : pt = 0 := by
      unfold aheadP at hi
      rcases Nat.eq_zero_or_pos pt with h | h
      · exact h
      · rw [if_neg (by omega)] at hi; omega
    have hai : aheadP p pt = i := by unfold aheadP; rw [if_pos hpt0]; omega
    rw [l_rewrite_Number_0, M_loop, ← l_rewrite_Number_0]
    simp [b_rewrite_Number_0, h3, h8, h9, h23, h24, h25, hlt]
    refine hexit _ K hK (by simp [h3]) (by simp [h8, hai]) ?_
    subst hpt0
    simp [h9]; rfl
  | succ j ih =>
    intro i φ K hj hi hK h3 h8 h9 h23 h24 h25
    have hlt : (i : Int) < p.procs.length := by omega
    have hil : i < p.procs.length := by omega
    obtain ⟨e, he⟩ : ∃ e, p.procs[i]? = some e := ⟨_, List.getElem?_eq_getElem hil⟩
    have hrow := Pg.prow he
    have hrow2 : ∀ h : i < p.pcells.length, p.pcells[i] = [.str e.1, .sl 7 (Sm.rows e.2)] := fun h => by
      rw [List.getElem?_eq_getElem h] at hrow; exact Option.some.inj hrow
    have hw : IntKind.i64.wrap ((i : Int) + 1) = ((i + 1 : Nat) : Int) := by rw [w64 (by omega) (by omega)]; rfl
    have hwp : IntKind.i64.wrap (s.part - 1) = (pt : Int) - 1 := by rw [hpt, w64] <;> omega
    have hes : Sm.sizes e.2 ≤ 1000 := by have := p.cntP_at he; omega
    have hct := Count_eq e.2 (by omega) []
    have hcn := p.cntP_next he
    have hcp := p.cntP_at he
    have hfe := Sm.flats_sizes e.2
    have hwc : IntKind.i64.wrap ((p.cntP i : Int) + (Sm.flats e.2).length) = (p.cntP (i + 1) : Int) := by rw [hcn, w64] <;> omega
    have hKl := get_len hK
    have hK1 : ∀ X : Option (List V), (K ++ [X])[1]? = some (some s.cells) := fun X => by rw [List.getElem?_append_left hKl, hK]
    rw [l_rewrite_Number_0, M_loop, ← l_rewrite_Number_0]
    by_cases hm : (i : Int) = (pt : Int) - 1
    · have hb : p.blocks.getD pt [] = e.2 := by
        rcases blocks_at hptl with ⟨e0, _⟩ | ⟨x, h2, hx, hb⟩
        · omega
        · rw [hb]
          rw [show pt - 1 = i by omega, he] at hx
          rw [Option.some.inj hx]
      have hai : aheadP p pt = i := by unfold aheadP; rw [if_neg (by omega)]; omega
      have hwp' : IntKind.i64.wrap (s.part - 1) = (i : Int) := by rw [hwp, hm]
      simp [b_rewrite_Number_0, h3, h8, h9, h23, h24, h25, hlt, hil, hpl, hrow, hrow2, hK1, c1, gb, hwp', get0, set0]
      refine hexit _ _ (hK1 _) ?_ ?_ ?_
      · simp [h3]
      · simp [h8, hai]
      · rw [hb]; simp
    · have hi' : i + 1 ≤ aheadP p pt := by
        unfold aheadP at hi ⊢
        split at hi <;> rename_i h
        · rw [if_pos h]; omega
        · rw [if_neg h]; omega
      simp [b_rewrite_Number_0, h3, h8, h9, h23, h24, h25, hlt, hil, hpl, hrow, hrow2, hK1, c1, gb, hwp, hm, get0, set0, hct, hwc, hw]
      refine ih (i + 1) _ _ (by omega) hi' (hK1 _) ?_ ?_ ?_ ?_ ?_ ?_ <;> simp [h3, h9, h23, h24]
theorem led_parts {p : Pg} {s : Si} (h : leadOf p s ≠ []) : 0 ≤ s.part ∧ s.part < p.blocks.length ∧ s.may = true ∧ leadOf p s = leadTo (p.blocks.getD s.part.toNat []) (kWay s) (nWay s) := by
  unfold leadOf at h ⊢
  split at h
  · rename_i hc
    rw [if_pos hc]
    exact ⟨hc.1, hc.2.1, hc.2.2, rfl⟩
  · exact absurd rfl h
theorem Number_eq (p : Pg) (hp : p.size ≤ 1000) (s : Si) (hf : s.fit) : eval tbl noExt n_rewrite_Number [.agg p.cells, .agg s.cells] [] = some (.tup [.int .i64 (if (leadOf p s).isEmpty then 0 else numOf p s : Nat), .bool (!(leadOf p s).isEmpty)], []) := by
  have ok := hf.1
  have hat := At_eq p hp s hf
  have hpc : p.cells = [.sl 2 p.pcells, .sl 7 (Sm.rows p.main), .sl 7 (Sm.rows p.recover), .sl 5 p.ocells] := rfl
  have hpl := p.pcells_len
  have q0 := Si.c0 (s := s)
  have q1 := Si.len ok
  have q3 := Si.strip (s := s)
  have q5 := Si.take ok
  have qu := fun n => Si.under (s := s) n
  have c1 := Si.c1 (s := s)
  have c2 := Si.c2 s ok
  have c10 := Si.c10 ok
  obtain ⟨X, hX⟩ : ∃ X, X = leadOf p s := ⟨_, rfl⟩
  obtain ⟨a0, a1, a2, a3, a4, a5, a6, hcs⟩ := Sm.cells_shape (headOf X)
  rw [eval_M rfl rfl t_rewrite_Number rfl]
  rw [← hX] at hat ⊢
  rw [hpc] at hat ⊢
  cases hXe : X.isEmpty with
  | true =>
    rw [hXe] at hat
    rw [hcs] at hat
    simp [c_rewrite_Number, hat, q1, q3, q5, qu]
  | false =>
    rw [hXe] at hat
    have hne : leadOf p s ≠ [] := fun h => by rw [hX, h] at hXe; simp at hXe
    obtain ⟨g0, g1, g2, g3⟩ := led_parts hne
    obtain ⟨m1, m2, m3⟩ := may_all g2
    obtain ⟨d, hd⟩ : ∃ d : Nat, s.deep = d := ⟨s.deep.toNat, by omega⟩
    have d1 : 1 ≤ d := by omega
    have d8 : d ≤ 8 := by omega
    obtain ⟨pt, hpt⟩ : ∃ pt : Nat, s.part = pt := ⟨s.part.toNat, by omega⟩
    obtain ⟨hwl, hwa⟩ := nWay_at ok hd d1 d8
    rw [hcs] at hat
    obtain ⟨w0, hw0⟩ : ∃ w0, w0 = s.way.getD 0 0 := ⟨_, rfl⟩
    rw [← hw0] at c2
    rw [hd] at c10
    have gc : ∀ h : 2 < s.cells.length, s.cells[2] = iv w0 := fun h => by
      rw [List.getElem?_eq_getElem h] at c2; exact Option.some.inj c2
    have gd : ∀ h : 10 < s.cells.length, s.cells[10] = iv (d : Int) := fun h => by
      rw [List.getElem?_eq_getElem h] at c10; exact Option.some.inj c10
    have hk : ((kWay s : Nat) : Int) = w0 := by
      have := m3 _ (getD_mem (l := s.way) (by rw [show s.way.length = 8 from hf.1]; omega))
      rw [hw0]; unfold kWay; omega
    have hnle := numOf_le g0 g1
    have hptt : s.part.toNat = pt := by omega
    have hbs : Sm.sizes (p.blocks.getD pt []) ≤ 1000 := by
      rcases blocks_at (p := p) (pt := pt) (by omega) with ⟨_, hb⟩ | ⟨x, _, hx, hb⟩
      · rw [hb]; have := p.cntP_le 0; omega
      · rw [hb]; have := p.cntP_at hx; omega
    rw [g3, hptt] at hne
    have b1 : (1 : Int) ≤ d := by omega
    have b2 : (d : Int) ≤ 8 := by omega
    simp [c_rewrite_Number, hat, q1, q3, q5, qu, hpl]
    refine number_loop p hp s hf pt hpt (by omega) (fun o => o = _) _ (fun φ' K hK h3 h8 h9 => ?_) p.procs.length 0 _ _ (by omega) (by omega) rfl ?_ ?_ ?_ ?_ ?_ ?_
    · have hah := ahead_eq (nWay s) (p.blocks.getD pt []) (kWay s) K 1 3 7 s.cells hK hwa (fun n hn => ⟨m3 n (List.mem_of_mem_take (List.mem_of_mem_drop hn)), (fit_range (hf.2.2.2.1 n (List.mem_of_mem_take (List.mem_of_mem_drop hn)))).2⟩) (by omega) hne hbs
      rw [hwl, hk] at hah
      have hno : numOf p s = p.cntP (aheadP p pt) + ahN (p.blocks.getD pt []) (kWay s) (nWay s) := by unfold numOf; rw [hptt]
      have hw : IntKind.i64.wrap ((p.cntP (aheadP p pt) : Int) + (ahN (p.blocks.getD pt []) (kWay s) (nWay s) : Int)) = (numOf p s : Int) := by rw [hno, w64] <;> omega
      obtain ⟨B, hB⟩ : ∃ B, B = p.blocks.getD pt [] := ⟨_, rfl⟩
      rw [← hB] at hah h9 hw
      simp [r_rewrite_Number_0, h3, h8, h9, hK, c2, c10, gc, gd, q1, b1, b2, hah, hw]
    all_goals simp [Pg.cntP, Pg.fsts, Sm.flats]
theorem rnum_loop0 (p : Pg) (hp : p.size ≤ 1000) (s : Si) (hf : s.fit) (pt : Nat) (hpt : s.part = pt) (hptl : pt < p.blocks.length) (K : Heap) (hK0 : K[0]? = some (some p.cells)) (hK1 : K[1]? = some (some s.cells)) (Q : Option (V × Heap) → Prop) (k : List Item)
    (hexit : ∀ φ', Fr.get φ' 2 = .ptr 0 0 → Fr.get φ' 3 = .ptr 1 0 → Fr.get φ' 8 = .int .i64 (p.cntP (aheadP p pt)) → Q (M (eval tbl noExt) k φ' K)) :
    ∀ (j i : Nat) (φ : Fr), i + j = p.procs.length → i ≤ aheadP p pt → Fr.get φ 2 = .ptr 0 0 → Fr.get φ 3 = .ptr 1 0 → Fr.get φ 8 = .int .i64 (p.cntP i) → Fr.get φ 9 = .int .i64 i →
      Q (M (eval tbl noExt) (.code l_r26_Number_0 :: .blk 0 :: k) φ K) := by
  have hpc : p.cells = [.sl 2 p.pcells, .sl 7 (Sm.rows p.main), .sl 7 (Sm.rows p.recover), .sl 5 p.ocells] := rfl
  have hpl := p.pcells_len
  have hbl := p.blocks_len
  have c1 := Si.c1 (s := s)
  have gb : ∀ h : 1 < s.cells.length, s.cells[1] = iv s.part := fun h => rfl
  have hs := p.size_eq
  rw [hpc] at hK0
  intro j
  induction j with
  | zero =>
    intro i φ hj hi h2 h3 h8 h9
    have hlt : ¬ ((i : Int) < p.procs.length) := by omega
    have hpt0 : pt = 0 := by
      unfold aheadP at hi
      rcases Nat.eq_zero_or_pos pt with h | h
      · exact h
      · rw [if_neg (by omega)] at hi; omega
    have hai : aheadP p pt = i := by unfold aheadP; rw [if_pos hpt0]; omega
    rw [l_r26_Number_0, M_loop, ← l_r26_Number_0]
    simp [b_r26_Number_0, h2, h3, h8, h9, hK0, hK1, hpl, hlt]
    exact hexit _ (by simp [h2]) (by simp [h3]) (by simp [h8, hai])
  | succ j ih =>
    intro i φ hj hi h2 h3 h8 h9
    have hlt : (i : Int) < p.procs.length := by omega
    have hil : i < p.procs.length := by omega
    obtain ⟨e, he⟩ : ∃ e, p.procs[i]? = some e := ⟨_, List.getElem?_eq_getElem hil⟩
    have hrow := Pg.prow he
    have hrow2 : ∀ h : i < p.pcells.length, p.pcells[i] = [.str e.1, .sl 7 (Sm.rows e.2)] := fun h => by
      rw [List.getElem?_eq_getElem h] at hrow; exact Option.some.inj hrow
    have hw : IntKind.i64.wrap ((i : Int) + 1) = ((i + 1 : Nat) : Int) := by rw [w64 (by omega) (by omega)]; rfl
    have hwp : IntKind.i64.wrap (s.part - 1) = (pt : Int) - 1 := by rw [hpt, w64] <;> omega
    have hes : Sm.sizes e.2 ≤ 1000 := by have := p.cntP_at he; omega
    have hct := refCount_ok 1000 e.2 hes (Nat.le_refl _)
    have hcn := p.cntP_next he
    have hcp := p.cntP_at he
    have hfe := Sm.flats_sizes e.2
    have hwc : IntKind.i64.wrap ((p.cntP i : Int) + (Sm.flats e.2).length) = (p.cntP (i + 1) : Int) := by rw [hcn, w64] <;> omega
    rw [l_r26_Number_0, M_loop, ← l_r26_Number_0]
    by_cases hm : (i : Int) = (pt : Int) - 1
    · have hai : aheadP p pt = i := by unfold aheadP; rw [if_neg (by omega)]; omega
      have hwp' : IntKind.i64.wrap (s.part - 1) = (i : Int) := by rw [hwp, hm]
      simp [b_r26_Number_0, h2, h3, h8, h9, hK0, hK1, hpl, hlt, hil, hrow, hrow2, c1, gb, hwp']
      exact hexit _ (by simp [h2]) (by simp [h3]) (by simp [h8, hai])
    · have hi' : i + 1 ≤ aheadP p pt := by
        unfold aheadP at hi ⊢
        split at hi <;> rename_i h
        · rw [if_pos h]; omega
        · rw [if_neg h]; omega
      simp [b_r26_Number_0, h2, h3, h8, h9, hK0, hK1, hpl, hlt, hil, hrow, hrow2, c1, gb, hwp, hm, hct, hwc, hw]
      refine ih (i + 1) _ (by omega) hi' ?_ ?_ ?_ ?_ <;> simp [h2, h3]
theorem body_le (x : Sm) : Sm.sizes x.body + Sm.sizes x.els + 1 ≤ x.size := by
  obtain ⟨op, s, m, xe, xb, xc, g⟩ := x
  simp only [Sm.body, Sm.els, Sm.size]; omega
theorem rnum_loop1 (p : Pg) (s : Si) (hf : s.fit) (hpos : ∀ w ∈ s.way, 0 ≤ w) {d : Nat} (hd : s.deep = d) (h1d : 1 ≤ d) (h8d : d ≤ 8) (T : Nat) (hT : T ≤ 2000) (Q : Option (V × Heap) → Prop) (kk : List Item)
    (hexit : ∀ φ' K, Fr.get φ' 8 = .int .i64 T → Q (M (eval tbl noExt) kk φ' K)) :
    ∀ (ws : List Int) (i : Nat) (l : List Sm) (k N : Nat) (φ : Fr) (K : Heap), (nWay s).drop i = ws → i ≤ d - 1 → leadTo l k ws ≠ [] → Sm.sizes l ≤ 1000 → N + ahN l k ws = T + (Sm.flats (l.take k)).length → (Sm.flats (l.take k)).length ≤ N → K[1]? = some (some s.cells) →
      Fr.get φ 3 = .ptr 1 0 → Fr.get φ 8 = .int .i64 N → Fr.get φ 10 = .sl 7 (Sm.rows l) → Fr.get φ 12 = .int .i64 k → Fr.get φ 13 = .int .i64 ((i + 1 : Nat) : Int) →
      Q (M (eval tbl noExt) (.code l_r26_Number_1 :: .blk 2 :: kk) φ K) := by
  have ok := hf.1
  have c10 := Si.c10 ok
  rw [hd] at c10
  have q1 := Si.len ok
  have gd : ∀ h : 10 < s.cells.length, s.cells[10] = iv (d : Int) := fun h => by
    rw [List.getElem?_eq_getElem h] at c10; exact Option.some.inj c10
  obtain ⟨hwl, hwa⟩ := nWay_at ok hd h1d h8d
  intro ws
  induction ws with
  | nil =>
    intro i l k N φ K hdr hi hne hsz hN hN2 hK h3 h8 h10 h12 h13
    have hid : i + 1 = d := by
      have := congrArg List.length hdr
      simp [hwl] at this; omega
    have e1 : ¬ ((i : Int) + 1 < (d : Int)) := by omega
    rw [ahN] at hN
    have hNT : N = T := by omega
    subst hNT
    have h13' : Fr.get φ 13 = .int .i64 ((i : Int) + 1) := by rw [h13]; rfl
    rw [l_r26_Number_1, M_loop, ← l_r26_Number_1]
    simp [b_r26_Number_1, h3, h8, h10, h12, h13', hK, c10, gd, q1, e1]
    exact hexit _ _ (by simp [h8])
  | cons n ws ih =>
    intro i l k N φ K hdr hi hne hsz hN hN2 hK h3 h8 h10 h12 h13
    have hdr' : (nWay s).drop (i + 1) = ws := by rw [← List.drop_drop, hdr]; rfl
    have hil : i < d - 1 := by
      have := congrArg List.length hdr
      simp [hwl] at this; omega
    have hn : (nWay s)[i]? = some n := by
      have h0 : ((nWay s).drop i)[0]? = (nWay s)[i]? := by rw [List.getElem?_drop]; rfl
      rw [← h0, hdr]; rfl
    have hcn := hwa i n hn
    have hmem : n ∈ s.way := List.mem_of_mem_take (List.mem_of_mem_drop (List.mem_of_getElem? hn))
    have hn0 := hpos n hmem
    have hn1 := (fit_range (hf.2.2.2.1 n hmem)).2
    cases hx : l[k]? with
    | none => exact absurd (leadTo_none (by rw [List.getElem?_eq_none_iff] at hx; exact hx) _) hne
    | some x =>
      rw [leadTo_some hx] at hne
      rw [ahN_some hx] at hN
      have hxs := take_sizes hx
      have hss := sub_size x n
      have hkl := get_len hx
      have hrow := Sm.rows_at hx
      have hrl := Sm.rows_len l
      have hKl := get_len hK
      have hK1 : ∀ X : Option (List V), (K ++ [X])[1]? = some (some s.cells) := fun X => by rw [List.getElem?_append_left hKl, hK]
      have h13' : Fr.get φ 13 = .int .i64 ((i : Int) + 1) := by rw [h13]; rfl
      have e1 : (i : Int) + 1 < (d : Int) := by omega
      have e2 : (0 : Int) ≤ (i : Int) + 1 := by omega
      have e3 : (i : Int) + 1 < 8 := by omega
      have e4 : ((i : Int) + 1).toNat = i + 1 := by omega
      have e5 : n.tmod 2 = n % 2 := Int.tmod_eq_emod_of_nonneg hn0
      have e6 : IntKind.i64.wrap (n.tdiv 2) = n / 2 := by rw [Int.tdiv_eq_ediv_of_nonneg hn0, w64] <;> omega
      have e7 : IntKind.i64.wrap ((i : Int) + 1 + 1) = (i : Int) + 1 + 1 := by rw [w64] <;> omega
      have e8 : (k : Int) < l.length := by omega
      have e10 : ((n / 2).toNat : Int) = n / 2 := by omega
      have e11 : s.cells[2 + (i + 1)]? = some (iv n) := by rw [show 2 + (i + 1) = 3 + i by omega]; exact hcn
      have e12 : ∀ h : 2 + (i + 1) < s.cells.length, s.cells[2 + (i + 1)] = iv n := fun h => by
        rw [List.getElem?_eq_getElem h] at e11; exact Option.some.inj e11
      have hfl := Sm.flats_sizes (l.take k)
      have hsl : ((n / 2).toNat) ≤ (x.sub n).length := by
        rcases Nat.lt_or_ge (x.sub n).length (n / 2).toNat with h | h
        · exact absurd (leadTo_none (by omega) _) hne
        · exact h
      have hct := refCount_ok 1000 ((x.sub n).take (n / 2).toNat) (by have := take_le (x.sub n) (n / 2).toNat; omega) (Nat.le_refl _)
      have hft := Sm.flats_sizes ((x.sub n).take (n / 2).toNat)
      have htl := take_le (x.sub n) (n / 2).toNat
      have hrt := Sm.rows_take (x.sub n) (n / 2).toNat
      have hrl2 := Sm.rows_len (x.sub n)
      have e14 : (n / 2 : Int) ≤ (x.sub n).length := by omega
      have e15 : (0 : Int) ≤ n / 2 := by omega
      have hah := ahN_le ws (x.sub n) (n / 2).toNat
      have hNb : N ≤ 3000 := by omega
      by_cases hodd : n % 2 = 1
      · have hS : x.sub n = x.els := by unfold Sm.sub; rw [if_pos hodd]
        rw [if_pos hodd] at hN
        have hcb := refCount_ok 1000 x.body (by have := body_le x; omega) (Nat.le_refl _)
        have hfb := Sm.flats_sizes x.body
        have hbl := body_le x
        have w1 : IntKind.i64.wrap ((N : Int) + 1) = (N : Int) + 1 := by rw [w64] <;> omega
        have w2 : IntKind.i64.wrap ((N : Int) + 1 + (Sm.flats x.body).length) = (N : Int) + 1 + (Sm.flats x.body).length := by rw [w64] <;> omega
        have w3 : IntKind.i64.wrap ((N : Int) + 1 + (Sm.flats x.body).length + (Sm.flats ((x.sub n).take (n / 2).toNat)).length) = ((N + 1 + (Sm.flats x.body).length + (Sm.flats ((x.sub n).take (n / 2).toNat)).length : Nat) : Int) := by rw [w64] <;> omega
        have hnx := ih (i + 1) (x.sub n) (n / 2).toNat (N + 1 + (Sm.flats x.body).length + (Sm.flats ((x.sub n).take (n / 2).toNat)).length)
        rw [hS] at hct hft hrt hrl2 e14 w3 hnx hne hss
        obtain ⟨op, sx, m, xe, xb, xc, g⟩ := x
        simp only [Sm.els, Sm.body, Sm.cells] at hrow hct hft hrt hrl2 e14 w1 w2 w3 hnx hcb hN hne hss
        rw [l_r26_Number_1, M_loop, ← l_r26_Number_1]
        simp [b_r26_Number_1, h3, h8, h10, h12, h13', hK, hK1, c10, gd, q1, e1, e2, e3, e4, e5, e6, e7, e8, e11, e12, e14, e15, hodd, hrl, hrow, get0, set0, hcb, hct, hrt, hrl2, w1, w2, w3]
        refine hnx _ _ hdr' (by omega) hne (by simp only [Sm.size] at hss hxs; omega) (by rw [hS] at hN; simp only [Sm.els] at hN; omega) (by omega) (hK1 _) ?_ ?_ ?_ ?_ ?_ <;> simp [h3, e10, w3]
      · have hS : x.sub n = x.body := by unfold Sm.sub; rw [if_neg hodd]
        rw [if_neg hodd] at hN
        have hev : ¬ n % 2 = 1 := hodd
        have w1 : IntKind.i64.wrap ((N : Int) + 1) = (N : Int) + 1 := by rw [w64] <;> omega
        have w3 : IntKind.i64.wrap ((N : Int) + 1 + (Sm.flats ((x.sub n).take (n / 2).toNat)).length) = ((N + 1 + (Sm.flats ((x.sub n).take (n / 2).toNat)).length : Nat) : Int) := by rw [w64] <;> omega
        have hnx := ih (i + 1) (x.sub n) (n / 2).toNat (N + 1 + (Sm.flats ((x.sub n).take (n / 2).toNat)).length)
        rw [hS] at hct hft hrt hrl2 e14 w3 hnx hne hss
        obtain ⟨op, sx, m, xe, xb, xc, g⟩ := x
        simp only [Sm.els, Sm.body, Sm.cells] at hrow hct hft hrt hrl2 e14 w1 w3 hnx hN hne hss
        rw [l_r26_Number_1, M_loop, ← l_r26_Number_1]
        simp [b_r26_Number_1, h3, h8, h10, h12, h13', hK, hK1, c10, gd, q1, e1, e2, e3, e4, e5, e6, e7, e8, e11, e12, e14, e15, hev, hrl, hrow, get0, set0, hct, hrt, hrl2, w1, w3]
        refine hnx _ _ hdr' (by omega) hne (by simp only [Sm.size] at hss hxs; omega) (by rw [hS] at hN; simp only [Sm.body] at hN; omega) (by omega) (hK1 _) ?_ ?_ ?_ ?_ ?_ <;> simp [h3, e10, w3]
theorem refNumber_eq (p : Pg) (hp : p.size ≤ 1000) (s : Si) (hf : s.fit) : eval tbl noExt n_r26_Number [.agg p.cells, .agg s.cells] [] = some (.tup [.int .i64 (if (leadOf p s).isEmpty then 0 else numOf p s : Nat), .bool (!(leadOf p s).isEmpty)], []) := by
  have ok := hf.1
  have hat := refAt_eq p hp s hf
  have hpc : p.cells = [.sl 2 p.pcells, .sl 7 (Sm.rows p.main), .sl 7 (Sm.rows p.recover), .sl 5 p.ocells] := rfl
  have hpl := p.pcells_len
  have q1 := Si.len ok
  have q3 := Si.strip (s := s)
  have q5 := Si.take ok
  have qu := fun n => Si.under (s := s) n
  have c1 := Si.c1 (s := s)
  have gb : ∀ h : 1 < s.cells.length, s.cells[1] = iv s.part := fun h => rfl
  have c2 := Si.c2 s ok
  have c10 := Si.c10 ok
  obtain ⟨X, hX⟩ : ∃ X, X = leadOf p s := ⟨_, rfl⟩
  obtain ⟨a0, a1, a2, a3, a4, a5, a6, hcs⟩ := Sm.cells_shape (headOf X)
  have hbk := Block_eq p (by have := p.size_eq; omega) s.part (fit_range hf.2.2.1)
  rw [eval_M rfl rfl t_r26_Number rfl]
  rw [← hX] at hat ⊢
  rw [hpc] at hat hbk ⊢
  cases hXe : X.isEmpty with
  | true =>
    rw [hXe] at hat
    rw [hcs] at hat
    simp [c_r26_Number, hat, q1, q3, q5, qu]
  | false =>
    rw [hXe] at hat
    have hne : leadOf p s ≠ [] := fun h => by rw [hX, h] at hXe; simp at hXe
    obtain ⟨g0, g1, g2, g3⟩ := led_parts hne
    obtain ⟨m1, m2, m3⟩ := may_all g2
    obtain ⟨d, hd⟩ : ∃ d : Nat, s.deep = d := ⟨s.deep.toNat, by omega⟩
    have d1 : 1 ≤ d := by omega
    have d8 : d ≤ 8 := by omega
    obtain ⟨pt, hpt⟩ : ∃ pt : Nat, s.part = pt := ⟨s.part.toNat, by omega⟩
    rw [hcs] at hat
    obtain ⟨w0, hw0⟩ : ∃ w0, w0 = s.way.getD 0 0 := ⟨_, rfl⟩
    rw [← hw0] at c2
    rw [hd] at c10
    have gc : ∀ h : 2 < s.cells.length, s.cells[2] = iv w0 := fun h => by
      rw [List.getElem?_eq_getElem h] at c2; exact Option.some.inj c2
    have hk : ((kWay s : Nat) : Int) = w0 := by
      have := m3 _ (getD_mem (l := s.way) (by rw [show s.way.length = 8 from hf.1]; omega))
      rw [hw0]; unfold kWay; omega
    have hnle := numOf_le g0 g1
    have hptt : s.part.toNat = pt := by omega
    have hbs : p.cntP (aheadP p pt) + Sm.sizes (p.blocks.getD pt []) ≤ p.size := by
      rcases blocks_at (p := p) (pt := pt) (by omega) with ⟨_, hb⟩ | ⟨x, hp0, hx, hb⟩
      · rw [hb]; have := p.cntP_le (aheadP p pt); omega
      · rw [hb]; have := p.cntP_at hx; unfold aheadP; rw [if_neg (by omega)]; omega
    have hbv : blockV p s.part = .sl 7 (Sm.rows (p.blocks.getD pt [])) := by unfold blockV; rw [if_pos ⟨g0, g1⟩, hptt]
    have hbt : decide (0 ≤ s.part ∧ s.part < (p.blocks.length : Int)) = true := by simp [g0, g1]
    rw [hbv, hbt] at hbk
    rw [g3, hptt] at hne
    obtain ⟨B, hB⟩ : ∃ B, B = p.blocks.getD pt [] := ⟨_, rfl⟩
    have hno : numOf p s = p.cntP (aheadP p pt) + ahN B (kWay s) (nWay s) := by unfold numOf; rw [hptt, hB]
    rw [← hB] at hbk hne hbs
    have hkl : kWay s ≤ B.length := by
      rcases Nat.lt_or_ge B.length (kWay s) with h | h
      · exact absurd (leadTo_none (by omega) _) hne
      · exact h
    have hct := refCount_ok 1000 (B.take (kWay s)) (by have := take_le B (kWay s); omega) (Nat.le_refl _)
    have hft := Sm.flats_sizes (B.take (kWay s))
    have htl := take_le B (kWay s)
    have hrt := Sm.rows_take B (kWay s)
    have hrl := Sm.rows_len B
    have e1 : w0.toNat = kWay s := by omega
    have e2 : (0 : Int) ≤ w0 := by omega
    have e3 : w0 ≤ B.length := by omega
    have hwc : IntKind.i64.wrap ((p.cntP (aheadP p pt) : Int) + (Sm.flats (B.take (kWay s))).length) = ((p.cntP (aheadP p pt) + (Sm.flats (B.take (kWay s))).length : Nat) : Int) := by rw [w64] <;> omega
    simp [c_r26_Number, hat, q1, q3, q5, qu, hpl]
    refine rnum_loop0 p hp s hf pt hpt (by omega) _ rfl rfl (fun o => o = _) _ (fun φ' h2 h3 h8 => ?_) p.procs.length 0 _ (by omega) (by omega) ?_ ?_ ?_ ?_
    · simp [r_r26_Number_1, h2, h3, h8, q1, c1, gb, c2, gc, hbk, hct, hrt, hrl, e1, e2, e3, hwc]
      refine rnum_loop1 p s hf m3 hd d1 d8 (numOf p s) (by omega) (fun o => o = _) _ (fun φ' K h8 => ?_) (nWay s) 0 B (kWay s) (p.cntP (aheadP p pt) + (Sm.flats (B.take (kWay s))).length) _ _ rfl (by omega) hne (by omega) (by rw [hno]; omega) (by omega) rfl ?_ ?_ ?_ ?_ ?_
      · simp [r_r26_Number_0, h8]
      all_goals simp [h3, hk, hwc]
    all_goals simp [Pg.cntP, Pg.fsts, Sm.flats]
set_option maxHeartbeats 1000000
def CeOK (e : Ex) : Prop := eval tbl noExt n_r16_CopyExpr [.agg e.cells] [] = some (.agg e.cells, [])
theorem CopyExpr_loop (op m : Int) (s : List UInt8) (z : List V) (x : List Ex) (hl : x.length ≤ 20000) (hx : ∀ e ∈ x, CeOK e) (Q : Option (V × Heap) → Prop) (k : List Item)
    (hexit : ∀ φ', Fr.get φ' 1 = .ptr 0 0 → Fr.get φ' 2 = .ptr 1 0 → Fr.get φ' 3 = .own 4 (Ex.rows x) → Q (M (eval tbl noExt) k φ' [some [.int .i64 op, .int .i64 m, .str s, .sl 4 (Ex.rows x)], some z])) :
    ∀ (j i : Nat) (φ : Fr), i + j = x.length → Fr.get φ 1 = .ptr 0 0 → Fr.get φ 2 = .ptr 1 0 → Fr.get φ 3 = .own 4 (Ex.rows (x.take i)) → Fr.get φ 4 = .int .i64 i →
      Q (M (eval tbl noExt) (.code l_r16_CopyExpr_0 :: .blk 0 :: k) φ [some [.int .i64 op, .int .i64 m, .str s, .sl 4 (Ex.rows x)], some z]) := by
  intro j
  induction j with
  | zero =>
    intro i φ hj h1 h2 h3 h4
    have hi : ¬ ((i : Int) < x.length) := by omega
    have h3' : Fr.get φ 3 = .own 4 (Ex.rows x) := by rw [h3, List.take_of_length_le (by omega)]
    have hcl : (Ex.rows x).length = x.length := by rw [Ex.rows_eq]; simp
    rw [l_r16_CopyExpr_0, M_loop, ← l_r16_CopyExpr_0]
    simp [b_r16_CopyExpr_0, h1, h2, h3', h4, hi, hcl]
    exact hexit _ (by simp [h1]) (by simp [h2]) (by simp [h3'])
  | succ j ih =>
    intro i φ hj h1 h2 h3 h4
    have hi : (i : Int) < x.length := by omega
    have hil : i < x.length := by omega
    obtain ⟨e, he⟩ : ∃ e, x[i]? = some e := ⟨x[i], List.getElem?_eq_getElem hil⟩
    have hmem : e ∈ x := List.mem_of_getElem? he
    have hrow : (Ex.rows x)[i]? = some e.cells := by rw [Ex.rows_eq, List.getElem?_map, he]; rfl
    have hcl : (Ex.rows x).length = x.length := by rw [Ex.rows_eq]; simp
    have hck : (Ex.rows (x.take i)).length = i := by rw [Ex.rows_eq]; simp; omega
    have hnext : Ex.rows (x.take i) ++ [e.cells] = Ex.rows (x.take (i + 1)) := by
      rw [Ex.rows_eq, Ex.rows_eq, List.take_add_one, he]; simp
    have hw : IntKind.i64.wrap ((i : Int) + 1) = ((i + 1 : Nat) : Int) := by rw [w64 (by omega) (by omega)]; rfl
    have hb : 2 * (i + 1) * 56 ≤ 281474976710656 := by omega
    have hcall := hx _ hmem
    unfold CeOK at hcall
    obtain ⟨eop, em, es, ex⟩ := e
    simp only [Ex.cells] at hrow hnext hcall
    rw [l_r16_CopyExpr_0, M_loop, ← l_r16_CopyExpr_0]
    simp [b_r16_CopyExpr_0, h1, h2, h3, h4, hi, hcl, hrow, hcall, hck, hnext, hw, hb]
    refine ih (i + 1) _ (by omega) ?_ ?_ ?_ ?_ <;> simp [h1, h2]
theorem CopyExpr_eq : ∀ (n : Nat) (e : Ex), e.size ≤ n → n ≤ 20000 → CeOK e := by
  intro n
  induction n with
  | zero => intro e h; cases e; simp only [Ex.size] at h; omega
  | succ n ih =>
    intro e h hn
    obtain ⟨op, m, s, x⟩ := e
    simp only [Ex.size] at h
    have hx := Ex.sizes_ge x
    unfold CeOK
    rw [eval_M rfl rfl t_r16_CopyExpr rfl]
    simp [c_r16_CopyExpr, Ex.cells]
    refine CopyExpr_loop op m s _ x (by omega) (fun e he => ih e (by have := Ex.sizes_mem he; omega) (by omega)) (fun o => o = _) _ (fun φ' h1 h2 h3 => ?_) x.length 0 _ (by omega) ?_ ?_ ?_ ?_
    · simp [r_r16_CopyExpr_0, h1, h2, h3]
    all_goals simp [Ex.rows]
def CsOK (l : List Sm) : Prop := eval tbl noExt n_r16_CopyStmts [.sl 7 (Sm.rows l)] [] = some (.own 7 (Sm.rows l), [])
theorem CopyS_inner (K : Heap) (q : Nat) (cs : List V) (hq : K[q]? = some (some cs)) (x : List Ex) (hc3 : cs[3]? = some (.sl 4 (Ex.rows x))) (hl : x.length ≤ 20000) (hx : ∀ e ∈ x, CeOK e) (a0 a3 a4 : V) (Q : Option (V × Heap) → Prop) (k : List Item)
    (hexit : ∀ φ', Fr.get φ' 0 = a0 → Fr.get φ' 3 = a3 → Fr.get φ' 4 = a4 → Fr.get φ' 5 = .ptr q 0 → Fr.get φ' 6 = .own 4 (Ex.rows x) → Q (M (eval tbl noExt) k φ' K)) :
    ∀ (j i : Nat) (φ : Fr), i + j = x.length → Fr.get φ 0 = a0 → Fr.get φ 3 = a3 → Fr.get φ 4 = a4 → Fr.get φ 5 = .ptr q 0 → Fr.get φ 6 = .own 4 (Ex.rows (x.take i)) → Fr.get φ 7 = .int .i64 i →
      Q (M (eval tbl noExt) (.code l_r16_CopyStmts_0 :: .blk 2 :: k) φ K) := by
  intro j
  induction j with
  | zero =>
    intro i φ hj h0 h3 h4 h5 h6 h7
    have hi : ¬ ((i : Int) < x.length) := by omega
    have h6' : Fr.get φ 6 = .own 4 (Ex.rows x) := by rw [h6, List.take_of_length_le (by omega)]
    have hcl : (Ex.rows x).length = x.length := by rw [Ex.rows_eq]; simp
    rw [l_r16_CopyStmts_0, M_loop, ← l_r16_CopyStmts_0]
    simp [b_r16_CopyStmts_0, h5, h6', h7, hq, hc3, hi, hcl]
    exact hexit _ (by simp [h0]) (by simp [h3]) (by simp [h4]) (by simp [h5]) (by simp [h6'])
  | succ j ih =>
    intro i φ hj h0 h3 h4 h5 h6 h7
    have hi : (i : Int) < x.length := by omega
    have hil : i < x.length := by omega
    obtain ⟨e, he⟩ : ∃ e, x[i]? = some e := ⟨x[i], List.getElem?_eq_getElem hil⟩
    have hmem : e ∈ x := List.mem_of_getElem? he
    have hrow : (Ex.rows x)[i]? = some e.cells := by rw [Ex.rows_eq, List.getElem?_map, he]; rfl
    have hcl : (Ex.rows x).length = x.length := by rw [Ex.rows_eq]; simp
    have hck : (Ex.rows (x.take i)).length = i := by rw [Ex.rows_eq]; simp; omega
    have hnext : Ex.rows (x.take i) ++ [e.cells] = Ex.rows (x.take (i + 1)) := by
      rw [Ex.rows_eq, Ex.rows_eq, List.take_add_one, he]; simp
    have hw : IntKind.i64.wrap ((i : Int) + 1) = ((i + 1 : Nat) : Int) := by rw [w64 (by omega) (by omega)]; rfl
    have hb : 2 * (i + 1) * 56 ≤ 281474976710656 := by omega
    have hcall := hx _ hmem
    unfold CeOK at hcall
    obtain ⟨eop, em, es, ex⟩ := e
    simp only [Ex.cells] at hrow hnext hcall
    rw [l_r16_CopyStmts_0, M_loop, ← l_r16_CopyStmts_0]
    simp [b_r16_CopyStmts_0, h5, h6, h7, hq, hc3, hi, hcl, hrow, hcall, hck, hnext, hw, hb]
    refine ih (i + 1) _ (by omega) ?_ ?_ ?_ ?_ ?_ ?_ <;> simp [h0, h3, h4, h5]
theorem CopyS_loop (l : List Sm) (hl : l.length ≤ 20000) (hf : ∀ e ∈ l, (e.exprs.length ≤ 20000 ∧ ∀ x ∈ e.exprs, CeOK x) ∧ CsOK e.body ∧ CsOK e.els) (Q : Option (V × Heap) → Prop) (k : List Item)
    (hexit : ∀ φ' K, Fr.get φ' 3 = .own 7 (Sm.rows l) → Q (M (eval tbl noExt) k φ' K)) :
    ∀ (j i : Nat) (φ : Fr) (K : Heap), i + j = l.length → Fr.get φ 0 = .sl 7 (Sm.rows l) → Fr.get φ 3 = .own 7 (Sm.rows (l.take i)) → Fr.get φ 4 = .int .i64 i →
      Q (M (eval tbl noExt) (.code l_r16_CopyStmts_1 :: .blk 0 :: k) φ K) := by
  intro j
  induction j with
  | zero =>
    intro i φ K hj h0 h3 h4
    have hi : ¬ ((i : Int) < l.length) := by omega
    have h3' : Fr.get φ 3 = .own 7 (Sm.rows l) := by rw [h3, List.take_of_length_le (by omega)]
    have hcl : (Sm.rows l).length = l.length := by rw [Sm.rows_eq]; simp
    rw [l_r16_CopyStmts_1, M_loop, ← l_r16_CopyStmts_1]
    simp [b_r16_CopyStmts_1, h0, h3', h4, hi, hcl]
    exact hexit _ _ (by simp [h3'])
  | succ j ih =>
    intro i φ K hj h0 h3 h4
    have hi : (i : Int) < l.length := by omega
    have hil : i < l.length := by omega
    obtain ⟨e, he⟩ : ∃ e, l[i]? = some e := ⟨l[i], List.getElem?_eq_getElem hil⟩
    have hmem : e ∈ l := List.mem_of_getElem? he
    have hrow : (Sm.rows l)[i]? = some e.cells := by rw [Sm.rows_eq, List.getElem?_map, he]; rfl
    have hcl : (Sm.rows l).length = l.length := by rw [Sm.rows_eq]; simp
    have hck : (Sm.rows (l.take i)).length = i := by rw [Sm.rows_eq]; simp; omega
    have hnext : Sm.rows (l.take i) ++ [e.cells] = Sm.rows (l.take (i + 1)) := by
      rw [Sm.rows_eq, Sm.rows_eq, List.take_add_one, he]; simp
    have hw : IntKind.i64.wrap ((i : Int) + 1) = ((i + 1 : Nat) : Int) := by rw [w64 (by omega) (by omega)]; rfl
    have hb : 2 * (i + 1) * 112 ≤ 281474976710656 := by omega
    obtain ⟨⟨hxl, hx⟩, hbo, hco⟩ := hf _ hmem
    unfold CsOK at hbo hco
    obtain ⟨op, s, m, x, b, c, g⟩ := e
    simp only [Sm.cells, Sm.exprs, Sm.body, Sm.els] at hrow hnext hxl hx hbo hco
    rw [l_r16_CopyStmts_1, M_loop, ← l_r16_CopyStmts_1]
    simp [b_r16_CopyStmts_1, h0, h3, h4, hi, hcl, hrow, get0, set0]
    refine CopyS_inner _ K.length _ (get0 K _ []) x rfl hxl hx (.sl 7 (Sm.rows l)) (.own 7 (Sm.rows (l.take i))) (.int .i64 i) Q _ (fun φ' g0 g3 g4 g5 g6 => ?_) x.length 0 _ (by omega) (by simp [h0]) (by simp [h3]) (by simp [h4]) (by simp) (by simp [Ex.rows]) (by simp)
    simp [r_r16_CopyStmts_0, r_r16_CopyStmts_1, g0, g3, g4, g5, g6, get0, set0, hbo, hco, hck, hb, hnext, hw]
    refine ih (i + 1) _ _ (by omega) ?_ ?_ ?_ <;> simp [g0]
theorem CopyS_eq : ∀ (n : Nat) (l : List Sm), Sm.sizes l ≤ n → n ≤ 20000 → CsOK l := by
  intro n
  induction n with
  | zero =>
    intro l h hn
    have := Sm.sizes_ge l
    obtain rfl : l = [] := List.length_eq_zero_iff.1 (by omega)
    unfold CsOK
    rw [eval_M rfl rfl t_r16_CopyStmts rfl]
    simp [c_r16_CopyStmts]
    refine CopyS_loop [] (by simp) (fun e he => by simp at he) (fun o => o = _) _ (fun φ' K h3 => ?_) 0 0 _ _ rfl ?_ ?_ ?_
    · simp [r_r16_CopyStmts_2, h3]
    all_goals simp [Sm.rows]
  | succ n ih =>
    intro l h hn
    have hl := Sm.sizes_ge l
    unfold CsOK
    rw [eval_M rfl rfl t_r16_CopyStmts rfl]
    simp [c_r16_CopyStmts]
    refine CopyS_loop l (by omega) (fun e he => ?_) (fun o => o = _) _ (fun φ' K h3 => ?_) l.length 0 _ _ (by omega) ?_ ?_ ?_
    · have hm := Sm.sizes_mem he
      obtain ⟨op, s, m, x, b, c, g⟩ := e
      simp only [Sm.size] at hm
      have := Ex.sizes_ge x
      exact ⟨⟨by simp only [Sm.exprs]; omega, fun y hy => CopyExpr_eq 20000 y (by have := Ex.sizes_mem hy; simp only [Sm.exprs] at *; omega) (Nat.le_refl _)⟩, ih b (by omega) (by omega), ih c (by omega) (by omega)⟩
    · simp [r_r16_CopyStmts_2, h3]
    all_goals simp [Sm.rows]
set_option maxHeartbeats 2000000
/-- A procedure that is plain data, in a list that can be written. -/
def PrP (H : Heap) (x : List UInt8 × List Sm) (cells : List V) (S : List Nat) : Prop := cells = procV x ∧ S = []
theorem PrP.frame : ∀ (H K : Heap) (x : List UInt8 × List Sm) (r : List V) (S : List Nat), PrP H x r S → (∀ i ∈ S, K[i]? = H[i]?) → PrP K x r S := fun _ _ _ _ _ h _ => h
theorem PrP.len : ∀ (H : Heap) (x : List UInt8 × List Sm) (r : List V) (S : List Nat), PrP H x r S → r.length = 2 := fun _ _ _ _ h => by rw [h.1]; rfl
theorem OL.frame {α : Type} {R : Heap → α → List V → List Nat → Prop} (hR : ∀ H K a r S, R H a r S → (∀ i ∈ S, K[i]? = H[i]?) → R K a r S) {k n : Nat} {K K' : Heap} {v : V} {l : List α} {S : List Nat} (h : OL R k n K v l S) (hK : ∀ i, n ≤ i → K'[i]? = K[i]?) (hl : K'.length = K.length) : OL R k n K' v l S := by
  refine ⟨h.nd, fun i hi => by rw [hl]; exact h.at_ i hi, ?_⟩
  rcases h.is with h1 | ⟨i, rows, S', h1, h2, rfl, h4, h5⟩
  · exact .inl h1
  · exact .inr ⟨i, rows, S', h1, h2, rfl, by rw [hK i (h.at_ i (by simp)).1, h4], GReps.frame hR h5 fun j hj => hK j (h.at_ j (by simp [hj])).1⟩
theorem Copy_loop0 (p : Pg) (hsz : p.size ≤ 20000) (z : List V) (Q : Option (V × Heap) → Prop) (k : List Item)
    (hexit : ∀ φ' K v S, K[3]? = some (some p.cells) → K[4]? = some (some z) → K[5]? = some (some [v, .own 7 [], .own 7 [], .own 5 []]) → 6 ≤ K.length → (∀ j, j < 3 → K[j]? = some none) → OL PrP 2 6 K v p.procs S → Fr.get φ' 1 = .ptr 3 0 → Fr.get φ' 2 = .ptr 4 0 → Fr.get φ' 3 = .ptr 5 0 → Q (M (eval tbl noExt) k φ' K)) :
    ∀ (j i : Nat) (φ : Fr) (K : Heap) (v : V) (S : List Nat), i + j = p.procs.length → K[3]? = some (some p.cells) → K[4]? = some (some z) → K[5]? = some (some [v, .own 7 [], .own 7 [], .own 5 []]) → 6 ≤ K.length → (∀ j, j < 3 → K[j]? = some none) → OL PrP 2 6 K v (p.procs.take i) S →
      Fr.get φ 1 = .ptr 3 0 → Fr.get φ 2 = .ptr 4 0 → Fr.get φ 3 = .ptr 5 0 → Fr.get φ 4 = .int .i64 i → Q (M (eval tbl noExt) (.code l_r16_Copy_w_0 :: .blk 0 :: k) φ K) := by
  have hpc : p.cells = [.sl 2 p.pcells, .sl 7 (Sm.rows p.main), .sl 7 (Sm.rows p.recover), .sl 5 p.ocells] := rfl
  have hpl := p.pcells_len
  have hs := p.size_eq
  intro j
  induction j with
  | zero =>
    intro i φ K v S hj k3 k4 k5 kl kn hv h1 h2 h3 h4
    have hi : ¬ ((i : Int) < p.procs.length) := by omega
    rw [List.take_of_length_le (by omega)] at hv
    have k3' := k3
    rw [hpc] at k3'
    rw [l_r16_Copy_w_0, M_loop, ← l_r16_Copy_w_0]
    simp [b_r16_Copy_w_0, h1, h2, h3, h4, k3', hi, hpl]
    exact hexit _ K v S k3 k4 k5 kl kn hv (by simp [h1]) (by simp [h2]) (by simp [h3])
  | succ j ih =>
    intro i φ K v S hj k3 k4 k5 kl kn hv h1 h2 h3 h4
    have hi : (i : Int) < p.procs.length := by omega
    have hil : i < p.procs.length := by omega
    obtain ⟨e, he⟩ : ∃ e, p.procs[i]? = some e := ⟨_, List.getElem?_eq_getElem hil⟩
    have hrow := Pg.prow he
    have hti : (p.procs.take i).length = i := by simp; omega
    have hnext : p.procs.take i ++ [e] = p.procs.take (i + 1) := by rw [List.take_add_one, he]; rfl
    have hw : IntKind.i64.wrap ((i : Int) + 1) = ((i + 1 : Nat) : Int) := by rw [w64 (by omega) (by omega)]; rfl
    have hes : Sm.sizes e.2 ≤ 20000 := by
      have hm : e.2 ∈ p.bodies := by simp only [Pg.bodies, List.mem_map]; exact ⟨e, List.mem_of_getElem? he, rfl⟩
      have := sizes_flatten hm
      omega
    have hcall := CopyS_eq 20000 e.2 hes (Nat.le_refl _)
    unfold CsOK at hcall
    obtain ⟨q, K4, S', hap, hOL, hlo, hle⟩ := OL.push (R := PrP) (bytes := 40) (h := hv) (K3 := K) (e := e) (cells := procV e) (Se := []) PrP.frame PrP.len (by omega) (by omega) kl (by rw [hti]; omega) (fun q hq => rfl) (Nat.le_refl _) ⟨rfl, rfl⟩ List.nodup_nil (fun i hi => by simp at hi) rfl
    rw [hnext] at hOL
    rw [hti] at hap hOL
    simp only [procV] at hap
    have k3' := k3
    rw [hpc] at k3'
    have k45 : K4[5]? = some (some [v, .own 7 [], .own 7 [], .own 5 []]) := by rw [hlo 5 (by omega), k5]
    have hset : ∀ x j, j ≠ 5 → (K4.set 5 x)[j]? = K4[j]? := fun x j hj => set_ne hj
    have hv' : v = .nils 2 ∨ ∃ i n c, v = .mg 2 i 0 n c := by
      rcases hv.is with ⟨_, rfl, _⟩ | ⟨_, _, _, _, rfl, _⟩
      · exact .inl rfl
      · exact .inr ⟨_, _, _, rfl⟩
    rw [l_r16_Copy_w_0, M_loop, ← l_r16_Copy_w_0]
    rcases hv' with rfl | ⟨i0, n0, c0, rfl⟩
    all_goals
      simp [b_r16_Copy_w_0, h1, h2, h3, h4, k3', k5, hi, hpl, hrow, hcall, hap, k45, hw]
      refine ih (i + 1) _ (K4.set 5 (some [.mg 2 q 0 (i + 1) (i + 1), .own 7 [], .own 7 [], .own 5 []])) _ S' (by omega) ?_ ?_ (set_eq k45) (by rw [List.length_set]; omega) (fun j hj => ?_) (hOL.frame PrP.frame (fun j hj => hset _ j (by omega)) (by rw [List.length_set])) (by simp [h1]) (by simp [h2]) (by simp [h3]) (by simp)
      · rw [hset _ 3 (by omega), hlo 3 (by omega), k3]
      · rw [hset _ 4 (by omega), hlo 4 (by omega), k4]
      · rw [hset _ j (by omega), hlo j (by omega), kn j hj]
def orows (l : List (List UInt8 × Ex)) : List (List V) := l.map fun x => .str x.1 :: x.2.cells
theorem Copy_loop1 (p : Pg) (hsz : p.size ≤ 20000) (z : List V) (v u1 u2 : V) (S : List Nat) (Q : Option (V × Heap) → Prop) (k : List Item)
    (hexit : ∀ φ' K, K[4]? = some (some z) → K[5]? = some (some [v, u1, u2, .own 5 p.ocells]) → 6 ≤ K.length → (∀ j, j < 3 → K[j]? = some none) → OL PrP 2 6 K v p.procs S → Fr.get φ' 2 = .ptr 4 0 → Fr.get φ' 3 = .ptr 5 0 → Q (M (eval tbl noExt) k φ' K)) :
    ∀ (j i : Nat) (φ : Fr) (K : Heap), i + j = p.oracles.length → K[3]? = some (some p.cells) → K[4]? = some (some z) → K[5]? = some (some [v, u1, u2, .own 5 (orows (p.oracles.take i))]) → 6 ≤ K.length → (∀ j, j < 3 → K[j]? = some none) → OL PrP 2 6 K v p.procs S →
      Fr.get φ 1 = .ptr 3 0 → Fr.get φ 2 = .ptr 4 0 → Fr.get φ 3 = .ptr 5 0 → Fr.get φ 5 = .int .i64 i → Q (M (eval tbl noExt) (.code l_r16_Copy_w_1 :: .blk 2 :: k) φ K) := by
  have hpc : p.cells = [.sl 2 p.pcells, .sl 7 (Sm.rows p.main), .sl 7 (Sm.rows p.recover), .sl 5 p.ocells] := rfl
  have hpl := p.ocells_len
  have hs := p.size_eq
  intro j
  induction j with
  | zero =>
    intro i φ K hj k3 k4 k5 kl kn hv h1 h2 h3 h5
    have hi : ¬ ((i : Int) < p.oracles.length) := by omega
    have k5' : K[5]? = some (some [v, u1, u2, .own 5 p.ocells]) := by rw [k5, List.take_of_length_le (by omega)]; rfl
    rw [hpc] at k3
    rw [l_r16_Copy_w_1, M_loop, ← l_r16_Copy_w_1]
    simp [b_r16_Copy_w_1, h1, h2, h3, h5, k3, hi, hpl]
    exact hexit _ K k4 k5' kl kn hv (by simp [h2]) (by simp [h3])
  | succ j ih =>
    intro i φ K hj k3 k4 k5 kl kn hv h1 h2 h3 h5
    have hi : (i : Int) < p.oracles.length := by omega
    have hil : i < p.oracles.length := by omega
    obtain ⟨e, he⟩ : ∃ e, p.oracles[i]? = some e := ⟨_, List.getElem?_eq_getElem hil⟩
    have hrow := Pg.orow he
    have hnext : orows (p.oracles.take i) ++ [.str e.1 :: e.2.cells] = orows (p.oracles.take (i + 1)) := by rw [orows, orows, List.take_add_one, he]; simp
    have hck : (orows (p.oracles.take i)).length = i := by rw [orows]; simp; omega
    have hw : IntKind.i64.wrap ((i : Int) + 1) = ((i + 1 : Nat) : Int) := by rw [w64 (by omega) (by omega)]; rfl
    have hb : 2 * (i + 1) * 72 ≤ 281474976710656 := by omega
    have hcall := CopyExpr_eq 20000 e.2 (by
      have hm : e.2 ∈ p.exprs := by simp only [Pg.exprs, List.mem_map]; exact ⟨e, List.mem_of_getElem? he, rfl⟩
      have := Ex.sizes_mem hm
      omega) (Nat.le_refl _)
    unfold CeOK at hcall
    have k3' := k3
    rw [hpc] at k3'
    have hset : ∀ x j, j ≠ 5 → (K.set 5 x)[j]? = K[j]? := fun x j hj => set_ne hj
    have hs5 : ∀ x, (K.set 5 x)[5]? = some x := fun x => set_eq k5
    obtain ⟨nm, eop, em, es, ex⟩ := e
    simp only [Ex.cells] at hrow hnext hcall
    rw [l_r16_Copy_w_1, M_loop, ← l_r16_Copy_w_1]
    have h35 : ∀ x, (K.set 5 x)[3]? = some (some [.sl 2 p.pcells, .sl 7 (Sm.rows p.main), .sl 7 (Sm.rows p.recover), .sl 5 p.ocells]) := fun x => by rw [hset x 3 (by omega), k3']
    simp [b_r16_Copy_w_1, h1, h2, h3, h5, k3', k5, hi, hpl, hrow, hcall, hs5, h35, hck, hb, hnext, hw]
    refine ih (i + 1) _ (K.set 5 (some [v, u1, u2, .own 5 (orows (p.oracles.take (i + 1)))])) (by omega) ?_ ?_ (set_eq k5) (by rw [List.length_set]; omega) (fun j hj => ?_) (hv.frame PrP.frame (fun j hj => hset _ j (by omega)) (by rw [List.length_set])) (by simp [h1]) (by simp [h2]) (by simp [h3]) (by simp)
    · rw [hset _ 3 (by omega), k3]
    · rw [hset _ 4 (by omega), k4]
    · rw [hset _ j (by omega), kn j hj]
/-- The document's copy. -/
theorem CopyW (p : Pg) (hsz : p.size ≤ 20000) : ∃ v L, eval tbl noExt (wNo n_r16_Copy) [.agg p.cells] [none, none, none] = some (.agg [v, .sl 7 (Sm.rows p.main), .sl 7 (Sm.rows p.recover), .sl 5 p.ocells], none :: none :: none :: L) ∧ ∃ S,
    LRep 2 (none :: none :: none :: L) p.procs.length v S (GReps PrP (none :: none :: none :: L) p.procs) ∧ S.Nodup ∧ ∀ i ∈ S, 3 ≤ i ∧ i < L.length + 3 := by
  have hpc : p.cells = [.sl 2 p.pcells, .sl 7 (Sm.rows p.main), .sl 7 (Sm.rows p.recover), .sl 5 p.ocells] := rfl
  have hs := p.size_eq
  have hm := CopyS_eq 20000 p.main (by omega) (Nat.le_refl _)
  have hr := CopyS_eq 20000 p.recover (by omega) (Nat.le_refl _)
  unfold CsOK at hm hr
  rw [eval_W tw_flotsamref16_Copy rfl]
  simp only [hpc]
  simp [c_r16_Copy_w]
  refine Copy_loop0 p hsz [.nils 2, .own 7 [], .own 7 [], .own 5 []] (fun o => ∃ v L, o = some (.agg [v, .sl 7 (Sm.rows p.main), .sl 7 (Sm.rows p.recover), .sl 5 p.ocells], none :: none :: none :: L) ∧ ∃ S,
    LRep 2 (none :: none :: none :: L) p.procs.length v S (GReps PrP (none :: none :: none :: L) p.procs) ∧ S.Nodup ∧ ∀ i ∈ S, 3 ≤ i ∧ i < L.length + 3) _ (fun φ' K v S k3 k4 k5 kl kn hv h1 h2 h3 => ?_) p.procs.length 0 _ [none, none, none, some p.cells, some [.nils 2, .own 7 [], .own 7 [], .own 5 []], some [.nils 2, .own 7 [], .own 7 [], .own 5 []]] (.nils 2) [] (by omega) rfl rfl rfl (by simp) (fun j hj => ?_) ⟨List.nodup_nil, fun i hi => by simp at hi, .inl ⟨rfl, rfl, rfl⟩⟩ ?_ ?_ ?_ ?_
  · have k3' := k3
    rw [hpc] at k3'
    have hset : ∀ x j, j ≠ 5 → (K.set 5 x)[j]? = K[j]? := fun x j hj => set_ne hj
    have hs5 : ∀ x, (K.set 5 x)[5]? = some x := fun x => set_eq k5
    have h35 : ∀ x, (K.set 5 x)[3]? = some (some [.sl 2 p.pcells, .sl 7 (Sm.rows p.main), .sl 7 (Sm.rows p.recover), .sl 5 p.ocells]) := fun x => by rw [hset x 3 (by omega), k3']
    simp [r_r16_Copy_w_1, h1, h2, h3, k3', k5, hm, hr, hs5, h35]
    refine Copy_loop1 p hsz [.nils 2, .own 7 [], .own 7 [], .own 5 []] v (.own 7 (Sm.rows p.main)) (.own 7 (Sm.rows p.recover)) S (fun o => ∃ v L, o = some (.agg [v, .sl 7 (Sm.rows p.main), .sl 7 (Sm.rows p.recover), .sl 5 p.ocells], none :: none :: none :: L) ∧ ∃ S,
    LRep 2 (none :: none :: none :: L) p.procs.length v S (GReps PrP (none :: none :: none :: L) p.procs) ∧ S.Nodup ∧ ∀ i ∈ S, 3 ≤ i ∧ i < L.length + 3) _ (fun φ' K' q4 q5 ql qn hv' g2 g3 => ?_) p.oracles.length 0 _ _ (by omega) ?_ ?_ (hs5 _) (by rw [List.length_set]; omega) (fun j hj => ?_) (hv.frame PrP.frame (fun j hj => hset _ j (by omega)) (by rw [List.length_set])) ?_ ?_ ?_ ?_
    rotate_left
    · rw [hset _ 3 (by omega), k3]
    · rw [hset _ 4 (by omega), k4]
    · rw [hset _ j (by omega), kn j hj]
    · simp [h1]
    · simp [h2]
    · simp [h3]
    · simp
    · obtain ⟨hrep, hvs⟩ := hv'.rep
      obtain ⟨L, rfl⟩ : ∃ L, K' = none :: none :: none :: L := by
        match K', qn 0 (by omega), qn 1 (by omega), qn 2 (by omega) with
        | a :: b :: c :: L, e0, e1, e2 =>
          simp only [List.getElem?_cons_zero, List.getElem?_cons_succ, Option.some.injEq] at e0 e1 e2
          subst e0; subst e1; subst e2
          exact ⟨L, rfl⟩
      simp only [List.getElem?_cons_succ] at q4 q5
      have hL : ∀ x, (L.set 1 x)[1]? = some x := fun x => set_eq q4
      refine ⟨v.strip, L.set 1 (some [v.strip, .sl 7 (Sm.rows p.main), .sl 7 (Sm.rows p.recover), .sl 5 p.ocells]), ?_, S, ?_, hv'.nd, fun i hi => ?_⟩
      · rcases hv'.is with ⟨_, rfl, _⟩ | ⟨_, _, _, _, rfl, _⟩ <;> simp [r_r16_Copy_w_0, g2, g3, q4, q5, hL]
      · have hfr : ∀ i, 6 ≤ i → (none :: none :: none :: L.set 1 (some [v.strip, .sl 7 (Sm.rows p.main), .sl 7 (Sm.rows p.recover), .sl 5 p.ocells]) : Heap)[i]? = (none :: none :: none :: L : Heap)[i]? := fun i hi => by
          obtain ⟨q, rfl⟩ : ∃ q, i = q + 3 := ⟨i - 3, by omega⟩
          simp only [List.getElem?_cons_succ]
          exact set_ne (by omega)
        exact hrep.frame (fun i hi => hfr i (hv'.at_ i hi).1) fun rows S' hs h => GReps.frame PrP.frame h fun i hi => hfr i (hv'.at_ i (hs i hi)).1
      · have := hv'.at_ i hi
        simp at this ⊢; omega
  · match j, hj with
    | 0, _ => rfl
    | 1, _ => rfl
    | 2, _ => rfl
  all_goals simp
/-- What stands in place of the statement i. -/
def turn1 (kind : Int) (l : List Sm) (k i : Nat) (x : Sm) : List Sm :=
  if i = k then
    if kind = 1 ∨ kind = 3 ∨ kind = 4 ∨ kind = 8 then [] else if kind = 2 then [x.setOp 9] else if kind = 6 then [x.unmark] else if kind = 7 then [x.tear] else if kind = 5 then (match l[k + 1]? with | some y => [y] | none => [x]) else [x]
  else if kind = 5 ∧ i = k + 1 then (match l[k]? with | some y => [y] | none => [x]) else [x]
def turnF (kind : Int) (l : List Sm) (k : Nat) : Nat → List Sm → List Sm
  | _, [] => []
  | i, x :: r => turn1 kind l k i x ++ turnF kind l k (i + 1) r
theorem turnF_ahead (kind : Int) (l : List Sm) (k : Nat) : ∀ (A B : List Sm) (i : Nat), i + A.length ≤ k → turnF kind l k i (A ++ B) = A ++ turnF kind l k (i + A.length) B
  | [], B, i, _ => rfl
  | a :: A, B, i, h => by
    simp only [List.length_cons] at h
    have h1 : ¬ i = k := by omega
    have h2 : ¬ (kind = 5 ∧ i = k + 1) := fun e => by omega
    simp only [List.cons_append, turnF, turn1, h1, h2, if_false, List.nil_append, turnF_ahead kind l k A B (i + 1) (by omega), List.length_cons]
    congr 3; omega
theorem turnF_behind (kind : Int) (l : List Sm) (k : Nat) : ∀ (B : List Sm) (i : Nat), k < i → (kind = 5 → k + 1 < i) → turnF kind l k i B = B
  | [], i, _, _ => rfl
  | b :: B, i, h, h5 => by
    have h1 : ¬ i = k := by omega
    have h2 : ¬ (kind = 5 ∧ i = k + 1) := fun e => by have := h5 e.1; omega
    simp only [turnF, turn1, h1, h2, if_false, List.cons_append, List.nil_append, turnF_behind kind l k B (i + 1) (by omega) (fun e => by have := h5 e; omega)]
theorem fits_kind {kind : Int} {X : List Sm} (h : fitsOf kind X = true) : kind = 1 ∨ kind = 2 ∨ kind = 3 ∨ kind = 4 ∨ kind = 5 ∨ kind = 6 ∨ kind = 7 ∨ kind = 8 := by
  cases X with
  | nil => simp [fitsOf] at h
  | cons x r =>
    rw [fitsOf_cons] at h
    by_cases h1 : kind = 1; exact .inl h1
    by_cases h2 : kind = 2; exact .inr (.inl h2)
    by_cases h3 : kind = 3; exact .inr (.inr (.inl h3))
    by_cases h4 : kind = 4; exact .inr (.inr (.inr (.inl h4)))
    by_cases h5 : kind = 5; exact .inr (.inr (.inr (.inr (.inl h5))))
    by_cases h6 : kind = 6; exact .inr (.inr (.inr (.inr (.inr (.inl h6)))))
    by_cases h7 : kind = 7; exact .inr (.inr (.inr (.inr (.inr (.inr (.inl h7))))))
    by_cases h8 : kind = 8; exact .inr (.inr (.inr (.inr (.inr (.inr (.inr h8))))))
    simp [h1, h2, h3, h4, h5, h6, h7, h8] at h
theorem set_mid {α : Type} {A B : List α} {x y : α} {k : Nat} (h : A.length = k) : (A ++ x :: B).set k y = A ++ y :: B := by
  rw [List.set_append_right _ _ (by omega), h, Nat.sub_self]; rfl
theorem turn_edit {kind : Int} {l : List Sm} {k : Nat} (hfit : fitsOf kind (l.drop k) = true) : turnF kind l k 0 l = edit kind l k := by
  cases hX : l.drop k with
  | nil => rw [hX] at hfit; simp [fitsOf] at hfit
  | cons x r =>
    obtain ⟨hx, hy⟩ := drop_cons hX
    rw [hX] at hfit
    have hkk := fits_kind hfit
    have h5 : kind = 5 → ∃ y r', r = y :: r' := by
      rintro rfl
      rw [fitsOf_cons] at hfit
      simp only [show ¬ (5 : Int) = 1 by decide, show ¬ (5 : Int) = 2 by decide, show ¬ (5 : Int) = 3 by decide, show ¬ (5 : Int) = 4 by decide, if_false, if_true, Bool.and_eq_true] at hfit
      cases r with
      | nil => simp [nextWrites] at hfit
      | cons y r' => exact ⟨y, r', rfl⟩
    unfold edit
    rw [hx]
    obtain ⟨A, B, rfl, hA⟩ := split_row hx
    have hB : B = r := by
      rw [List.drop_append, List.drop_eq_nil_of_le (by omega), hA, Nat.sub_self] at hX
      simpa using hX
    subst hB
    have h1 := turnF_ahead kind (A ++ x :: B) k A (x :: B) 0 (by omega)
    rw [h1, Nat.zero_add, hA]
    simp only [turnF, turn1, if_true]
    by_cases k5 : kind = 5
    · obtain ⟨y, r', rfl⟩ := h5 k5
      subst k5
      have e1 : (A ++ x :: y :: r')[k + 1]? = some y := by rw [hy]; rfl
      have e2 := turnF_behind 5 (A ++ x :: y :: r') k r' (k + 1 + 1) (by omega) (fun _ => by omega)
      unfold swapAt
      simp [e1, hx, e2, turnF, turn1]
      rw [set_mid hA, show A ++ y :: y :: r' = (A ++ [y]) ++ y :: r' by simp, set_mid (by simp [hA])]
      simp
    · have e2 := turnF_behind kind (A ++ x :: B) k B (k + 1) (by omega) (fun h => absurd h k5)
      rw [e2]
      rcases hkk with rfl | rfl | rfl | rfl | rfl | rfl | rfl | rfl
      · simp [eraseIdx_mid hA]
      · simp [set_mid hA]
      · simp [eraseIdx_mid hA]
      · simp [eraseIdx_mid hA]
      · exact absurd rfl k5
      · simp [set_mid hA]
      · simp [set_mid hA]
      · simp [eraseIdx_mid hA]
/-! ## The walk -/
theorem Ex.rows_plain (l : List Ex) : ((Ex.rows l).all fun r => r.all V.plain) = true := by
  rw [List.all_eq_true]
  intro r hr
  rw [Ex.rows_eq] at hr
  obtain ⟨e, _, rfl⟩ := List.mem_map.1 hr
  cases e; rfl
theorem Ex.flat_plain (l : List Ex) : (Ex.rows l).flatten.all V.plain = true := by
  rw [List.all_eq_true]
  intro v hv
  obtain ⟨r, hr, hv⟩ := List.mem_flatten.1 hv
  exact List.all_eq_true.1 (List.all_eq_true.1 (Ex.rows_plain l) r hr) v hv
theorem Ex.flat_strip (l : List Ex) : (Ex.rows l).flatten.map V.strip = (Ex.rows l).flatten := by
  induction l with
  | nil => rfl
  | cons e l ih =>
    simp only [Ex.rows, List.flatten_cons, List.map_append, ih]
    cases e; rfl
/-- The copy of the expressions, torn. -/
theorem tear_rows {e : List Ex} {eL : Ex} (h : e.getLast? = some eL) : ∃ m, e.length = m + 1 ∧ (Ex.rows e).length = m + 1 ∧ (Ex.rows e).flatten.length = (m + 1) * 4 ∧ (Ex.rows e).flatten[m * 4 + 2]? = some (.str eL.text) ∧
    (Ex.rows e).flatten.set (m * 4 + 2) (.str (eL.text.take (eL.text.length / 2))) = (Ex.rows (halfLast e)).flatten ∧ chunk 4 (Ex.rows (halfLast e)).flatten 0 (m + 1) = Ex.rows (halfLast e) := by
  have h' := h
  rw [List.getLast?_eq_getElem?] at h'
  have hl := get_len h'
  obtain ⟨m, hm⟩ : ∃ m, e.length = m + 1 := ⟨e.length - 1, by omega⟩
  have hme : e[m]? = some eL := by rw [← h', hm]; rfl
  have hr : (Ex.rows e)[m]? = some eL.cells := by rw [Ex.rows_eq, List.getElem?_map, hme]; rfl
  have hw := Ex.rows_w e
  have hrl : (Ex.rows e).length = m + 1 := by rw [Ex.rows_len, hm]
  have hh : halfLast e = e.set m eL.half := by unfold halfLast; rw [h]; simp [hm]
  have hhr : Ex.rows (halfLast e) = (Ex.rows e).set m eL.half.cells := by rw [hh, Ex.rows_eq, Ex.rows_eq, List.map_set]
  refine ⟨m, hm, hrl, by rw [flat_len hw, hrl], ?_, ?_, ?_⟩
  · rw [flat_at hw hr 2 (by omega)]; cases eL; rfl
  · rw [flat_set hw hr 2 (by omega), hhr]; cases eL; rfl
  · have := chunk_flatten (k := 4) (rows := Ex.rows (halfLast e)) [] (Ex.rows_w _)
    rw [List.nil_append, List.length_nil, Ex.rows_len] at this
    have e2 : (halfLast e).length = m + 1 := by rw [hh, List.length_set, hm]
    rw [e2] at this
    exact this
theorem turn_loop (kind : Int) (l : List Sm) (hl : l.length ≤ 20000) (k : Nat) (hfit : fitsOf kind (l.drop k) = true) (hshort : Short (l.drop k)) (hxl : ∀ x ∈ l, x.exprs.length ≤ 20000) (Q : Option (V × Heap) → Prop) (kk : List Item)
    (hexit : ∀ φ' K, Fr.get φ' 7 = .own 7 (Sm.rows (turnF kind l k 0 l)) → Q (M (eval tbl noExt) kk φ' K)) :
    ∀ (rest : List Sm) (i : Nat) (φ : Fr) (K : Heap) (acc : List Sm), l.drop i = rest → acc.length ≤ i → acc ++ turnF kind l k i rest = turnF kind l k 0 l → Fr.get φ 0 = .sl 7 (Sm.rows l) → Fr.get φ 1 = .int .i64 k → Fr.get φ 2 = .int .i64 kind → Fr.get φ 7 = .own 7 (Sm.rows acc) → Fr.get φ 8 = .int .i64 i →
      Q (M (eval tbl noExt) (.code l_r26_turn_0 :: .blk 0 :: kk) φ K) := by
  have hrl := Sm.rows_len l
  intro rest
  induction rest with
  | nil =>
    intro i φ K acc hd hal hacc h0 h1 h2 h7 h8
    have hil : l.length ≤ i := by
      rcases Nat.lt_or_ge i l.length with h | h
      · have := congrArg List.length hd; simp at this; omega
      · exact h
    have hi : ¬ ((i : Int) < l.length) := by omega
    rw [turnF, List.append_nil] at hacc
    rw [l_r26_turn_0, M_loop, ← l_r26_turn_0]
    simp [b_r26_turn_0, h0, h1, h2, h7, h8, hi, hrl]
    exact hexit _ _ (by simp [h7, hacc])
  | cons x rest ih =>
    intro i φ K acc hd hal hacc h0 h1 h2 h7 h8
    obtain ⟨hx, _⟩ := drop_cons hd
    have hil := get_len hx
    have hi : (i : Int) < l.length := by omega
    have hd' : l.drop (i + 1) = rest := by rw [← List.drop_drop, hd]; rfl
    have hrow := Sm.rows_at hx
    have hw : IntKind.i64.wrap ((i : Int) + 1) = (i : Int) + 1 := by rw [w64 (by omega) (by omega)]
    have hb : 2 * (acc.length + 1) * 112 ≤ 281474976710656 := by omega
    have hck := Sm.rows_len acc
    have hrn : ∀ y : Sm, Sm.rows acc ++ [y.cells] = Sm.rows (acc ++ [y]) := fun y => by rw [Sm.rows_eq, Sm.rows_eq]; simp
    have hkl : k < l.length := by
      rcases Nat.lt_or_ge k l.length with h | h
      · exact h
      · rw [List.drop_eq_nil_of_le h] at hfit; simp [fitsOf] at hfit
    have hwk : IntKind.i64.wrap ((k : Int) + 1) = (k : Int) + 1 := by rw [w64 (by omega) (by omega)]
    rw [turnF, ← List.append_assoc] at hacc
    have hz : kind = 5 ∨ ¬ kind = 5 := Decidable.em _
    by_cases hik : i = k
    · subst hik
      have hsh := hshort x
      rw [hd] at hfit hsh
      have hkk := fits_kind hfit
      rw [fitsOf_cons] at hfit
      obtain ⟨op, s, m, xe, xb, xc, g⟩ := x
      simp only [Sm.cells] at hrow
      rcases hkk with rfl | rfl | rfl | rfl | rfl | rfl | rfl | rfl
      · simp [turn1] at hacc
        rw [l_r26_turn_0, M_loop, ← l_r26_turn_0]
        simp [b_r26_turn_0, h0, h1, h2, h7, h8, hi, hrl, hrow, get0, set0, hw]
        refine ih (i + 1) _ _ acc hd' (by omega) (by simpa using hacc) ?_ ?_ ?_ ?_ ?_ <;> simp [h0, h1, h2, h7]
      · simp [turn1] at hacc
        have hn := hrn (.mk 9 s m xe xb xc g)
        simp only [Sm.cells] at hn
        rw [l_r26_turn_0, M_loop, ← l_r26_turn_0]
        simp [b_r26_turn_0, h0, h1, h2, h7, h8, hi, hrl, hrow, get0, set0, hw, hck, hb, hn]
        refine ih (i + 1) _ _ (acc ++ [.mk 9 s m xe xb xc g]) hd' (by simp; omega) (by simpa [Sm.setOp] using hacc) ?_ ?_ ?_ ?_ ?_ <;> simp [h0, h1, h2]
      · simp [turn1] at hacc
        rw [l_r26_turn_0, M_loop, ← l_r26_turn_0]
        simp [b_r26_turn_0, h0, h1, h2, h7, h8, hi, hrl, hrow, get0, set0, hw]
        refine ih (i + 1) _ _ acc hd' (by omega) (by simpa using hacc) ?_ ?_ ?_ ?_ ?_ <;> simp [h0, h1, h2, h7]
      · simp [turn1] at hacc
        rw [l_r26_turn_0, M_loop, ← l_r26_turn_0]
        simp [b_r26_turn_0, h0, h1, h2, h7, h8, hi, hrl, hrow, get0, set0, hw]
        refine ih (i + 1) _ _ acc hd' (by omega) (by simpa using hacc) ?_ ?_ ?_ ?_ ?_ <;> simp [h0, h1, h2, h7]
      · -- exchanged
        simp only [show ¬ (5 : Int) = 1 by decide, show ¬ (5 : Int) = 2 by decide, show ¬ (5 : Int) = 3 by decide, show ¬ (5 : Int) = 4 by decide, if_false, if_true, Bool.and_eq_true] at hfit
        cases rest with
        | nil => simp [nextWrites] at hfit
        | cons y rest' =>
          obtain ⟨_, hy⟩ := drop_cons hd
          simp only [List.head?_cons] at hy
          have hyl := get_len hy
          have hrowy := Sm.rows_at hy
          simp [turn1, hy] at hacc
          obtain ⟨yo, ys, ym, ye, yb, yc, yg⟩ := y
          simp only [Sm.cells] at hrowy
          have hn := hrn (.mk yo ys ym ye yb yc yg)
          simp only [Sm.cells] at hn
          have a1 : (i : Int) + 1 < l.length := by omega
          have a2 : (0 : Int) ≤ (i : Int) + 1 := by omega
          have a3 : ((i : Int) + 1).toNat = i + 1 := by omega
          have a4 : ¬ (i : Int) = (i : Int) + 1 := by omega
          rw [l_r26_turn_0, M_loop, ← l_r26_turn_0]
          simp [b_r26_turn_0, h0, h1, h2, h7, h8, hi, hrl, hrow, hrowy, a1, a2, a3, a4, get0, set0, hw, hck, hb, hn]
          refine ih (i + 1) _ _ (acc ++ [.mk yo ys ym ye yb yc yg]) hd' (by simp; omega) (by simpa using hacc) ?_ ?_ ?_ ?_ ?_ <;> simp [h0, h1, h2]
      · simp [turn1] at hacc
        have hn := hrn (.mk op s m xe xb xc false)
        simp only [Sm.cells] at hn
        rw [l_r26_turn_0, M_loop, ← l_r26_turn_0]
        simp [b_r26_turn_0, h0, h1, h2, h7, h8, hi, hrl, hrow, get0, set0, hw, hck, hb, hn]
        refine ih (i + 1) _ _ (acc ++ [.mk op s m xe xb xc false]) hd' (by simp; omega) (by simpa [Sm.unmark] using hacc) ?_ ?_ ?_ ?_ ?_ <;> simp [h0, h1, h2]
      · -- torn
        simp only [show ¬ (7 : Int) = 1 by decide, show ¬ (7 : Int) = 2 by decide, show ¬ (7 : Int) = 3 by decide, show ¬ (7 : Int) = 4 by decide, show ¬ (7 : Int) = 5 by decide, show ¬ (7 : Int) = 6 by decide, if_false, if_true, Sm.torn, Bool.and_eq_true] at hfit
        obtain ⟨_, hlt⟩ := hfit
        unfold lastText at hlt
        simp only [Sm.exprs] at hlt
        cases heL : xe.getLast? with
        | none => rw [heL] at hlt; simp at hlt
        | some eL =>
          have htl := hsh eL rfl heL
          obtain ⟨q, t1, t2, t3, t4, t5, t6⟩ := tear_rows heL
          have hxe := hxl _ (List.mem_of_getElem? hx)
          simp only [Sm.exprs] at hxe
          simp [turn1] at hacc
          have hn := hrn (.mk op s m (halfLast xe) xb xc g)
          simp only [Sm.cells] at hn
          have p1 := Ex.rows_plain xe
          have p2 := Ex.flat_plain (halfLast xe)
          have p3 := Ex.flat_strip (halfLast xe)
          have p4 := Ex.flat_strip xe
          have e1 : IntKind.i64.wrap (q : Int) = (q : Int) := by rw [w64 (by omega) (by omega)]
          have e2 : IntKind.i64.wrap ((eL.text.length : Int) / 2) = (eL.text.length : Int) / 2 := by rw [w64] <;> omega
          have e3 : ((eL.text.length : Int) / 2).toNat = eL.text.length / 2 := by omega
          have e4 : (0 : Int) ≤ (eL.text.length : Int) / 2 := by omega
          have e5 : (eL.text.length : Int) / 2 ≤ eL.text.length := by omega
          have e6 : 2 * (q + 1) * 56 ≤ 281474976710656 := by omega
          have e7 : (q : Int) < (q : Int) + 1 := by omega
          have e8 : q * 4 + 2 + 1 ≤ (q + 1) * 4 := by omega
          have e9 : (q : Int) + 1 - 1 = q := by omega
          have e10 : (Ex.rows (halfLast xe)).flatten.length = (q + 1) * 4 := by rw [← t5, List.length_set, t3]
          have c0 : chunk 4 [] 0 0 = ([] : List (List V)) := rfl
          have c1 : ∀ a b c d e f g : V, chunk 7 [a, b, c, d, e, f, g] 0 1 = [[a, b, c, d, e, f, g]] := fun _ _ _ _ _ _ _ => rfl
          have t7 : (Ex.rows xe) ≠ [] := fun h => by rw [h] at t2; simp at t2
          rw [l_r26_turn_0, M_loop, ← l_r26_turn_0]
          simp [-List.all_eq_true, -List.map_flatten, -List.length_flatten, -chunk, b_r26_turn_0, h0, h1, h2, h7, h8, hi, hrl, hrow, get0, set0, get1, set1, hw, hck, hb, t2, t3, t4, t5, t6, t7, c0, c1, p1, p2, p3, p4, e1, e2, e3, e4, e5, e6, e7, e8, e9, e10, hn]
          refine ih (i + 1) _ _ (acc ++ [.mk op s m (halfLast xe) xb xc g]) hd' (by simp; omega) (by simpa [Sm.tear] using hacc) ?_ ?_ ?_ ?_ ?_ <;> simp [h0, h1, h2]
      · simp [turn1] at hacc
        rw [l_r26_turn_0, M_loop, ← l_r26_turn_0]
        simp [b_r26_turn_0, h0, h1, h2, h7, h8, hi, hrl, hrow, get0, set0, hw]
        refine ih (i + 1) _ _ acc hd' (by omega) (by simpa using hacc) ?_ ?_ ?_ ?_ ?_ <;> simp [h0, h1, h2, h7]
    · have a1 : ¬ (i : Int) = (k : Int) := by omega
      have hn := hrn x
      rcases hz with rfl | h5
      · by_cases hi1 : i = k + 1
        · subst hi1
          obtain ⟨y, hy⟩ : ∃ y, l[k]? = some y := ⟨_, List.getElem?_eq_getElem hkl⟩
          have hrowy := Sm.rows_at hy
          simp [turn1, hy] at hacc
          obtain ⟨op, s, m, xe, xb, xc, g⟩ := x
          obtain ⟨yo, ys, ym, ye, yb, yc, yg⟩ := y
          simp only [Sm.cells] at hrow hrowy
          have hn := hrn (.mk yo ys ym ye yb yc yg)
          simp only [Sm.cells] at hn
          have a2 : (k : Int) < l.length := by omega
          have a3 : ¬ ((k : Int) + 1 = k) := by omega
          have a4 : (0 : Int) ≤ (k : Int) + 1 := by omega
          have a5 : ((k : Int) + 1).toNat = k + 1 := by omega
          rw [Int.natCast_add] at hi hw h8
          simp at hi hw h8
          rw [l_r26_turn_0, M_loop, ← l_r26_turn_0]
          simp [b_r26_turn_0, h0, h1, h2, h7, h8, hi, hrl, hrow, hrowy, a2, a3, a4, a5, get0, set0, hw, hwk, hck, hb, hn]
          refine ih (k + 1 + 1) _ _ (acc ++ [.mk yo ys ym ye yb yc yg]) hd' (by simp; omega) (by simpa using hacc) ?_ ?_ ?_ ?_ ?_ <;> simp [h0, h1, h2]
        · simp [turn1, hik, hi1] at hacc
          have a2 : ¬ (i : Int) = (k : Int) + 1 := by omega
          obtain ⟨op, s, m, xe, xb, xc, g⟩ := x
          simp only [Sm.cells] at hrow hn
          rw [l_r26_turn_0, M_loop, ← l_r26_turn_0]
          simp [b_r26_turn_0, h0, h1, h2, h7, h8, hi, hrl, hrow, a1, a2, hik, get0, set0, hw, hwk, hck, hb, hn]
          refine ih (i + 1) _ _ (acc ++ [.mk op s m xe xb xc g]) hd' (by simp; omega) (by simpa using hacc) ?_ ?_ ?_ ?_ ?_ <;> simp [h0, h1, h2]
      · simp [turn1, hik, h5] at hacc
        obtain ⟨op, s, m, xe, xb, xc, g⟩ := x
        simp only [Sm.cells] at hrow hn
        rw [l_r26_turn_0, M_loop, ← l_r26_turn_0]
        simp [b_r26_turn_0, h0, h1, h2, h7, h8, hi, hrl, hrow, a1, h5, hik, get0, set0, hw, hwk, hck, hb, hn]
        refine ih (i + 1) _ _ (acc ++ [.mk op s m xe xb xc g]) hd' (by simp; omega) (by simpa using hacc) ?_ ?_ ?_ ?_ ?_ <;> simp [h0, h1, h2]
theorem turn_eq {kind : Int} {l : List Sm} {k : Nat} (hsz : Sm.sizes l ≤ 20000) (hfit : fitsOf kind (l.drop k) = true) (hshort : Short (l.drop k)) : eval tbl noExt n_r26_turn [.sl 7 (Sm.rows l), .int .i64 k, .int .i64 kind] [] = some (.own 7 (Sm.rows (edit kind l k)), []) := by
  have hl := Sm.sizes_ge l
  rw [eval_M rfl rfl t_r26_turn rfl]
  simp [c_r26_turn]
  refine turn_loop kind l (by omega) k hfit hshort (fun x hx => ?_) (fun o => o = _) _ (fun φ' K h7 => ?_) l 0 _ _ [] rfl (by simp) rfl ?_ ?_ ?_ ?_ ?_
  · have := Sm.sizes_mem hx
    obtain ⟨op, s, m, xs, xb, xc, g⟩ := x
    have h2 := Ex.sizes_ge xs
    simp only [Sm.size] at this
    simp only [Sm.exprs]; omega
  · rw [turn_edit hfit] at h7
    simp [r_r26_turn_0, h7]
  all_goals simp [Sm.rows]
theorem Sm.rows_plain (l : List Sm) : ((Sm.rows l).all fun r => r.all V.plain) = true := by
  rw [List.all_eq_true]
  intro r hr
  rw [Sm.rows_eq] at hr
  obtain ⟨e, _, rfl⟩ := List.mem_map.1 hr
  cases e; rfl
theorem Sm.flat_plain (l : List Sm) : (Sm.rows l).flatten.all V.plain = true := by
  rw [List.all_eq_true]
  intro v hv
  obtain ⟨r, hr, hv⟩ := List.mem_flatten.1 hv
  exact List.all_eq_true.1 (List.all_eq_true.1 (Sm.rows_plain l) r hr) v hv
theorem Sm.flat_strip (l : List Sm) : (Sm.rows l).flatten.map V.strip = (Sm.rows l).flatten := by
  induction l with
  | nil => rfl
  | cons e l ih =>
    simp only [Sm.rows, List.flatten_cons, List.map_append, ih]
    cases e; rfl
theorem Sm.flat_chunk (l : List Sm) : chunk 7 (Sm.rows l).flatten 0 l.length = Sm.rows l := by
  have := chunk_flatten (k := 7) (rows := Sm.rows l) [] (Sm.rows_w l)
  rw [List.nil_append, List.length_nil, Sm.rows_len] at this
  exact this
theorem Sm.flat_sub {l : List Sm} {k : Nat} {x : Sm} (hx : l[k]? = some x) (n : Int) (l' : List Sm) :
    (Sm.rows l).flatten.set (k * 7 + if n % 2 = 1 then 5 else 4) (.sl 7 (Sm.rows l')) = (Sm.rows (l.set k (x.withSub n l'))).flatten := by
  have hw := Sm.rows_w l
  have hr : (Sm.rows l)[k]? = some x.cells := Sm.rows_at hx
  obtain ⟨op, s, m, xe, xb, xc, g⟩ := x
  have he : Sm.rows (l.set k (Sm.withSub (.mk op s m xe xb xc g) n l')) = (Sm.rows l).set k (Sm.withSub (.mk op s m xe xb xc g) n l').cells := by rw [Sm.rows_eq, Sm.rows_eq, List.map_set]
  by_cases h : n % 2 = 1
  · rw [if_pos h, flat_set hw hr 5 (by omega), he]; simp [Sm.withSub, h, Sm.cells]
  · rw [if_neg h, flat_set hw hr 4 (by omega), he]; simp [Sm.withSub, h, Sm.cells]
theorem refAlong_eq (s : Si) (hf : s.fit) {d : Nat} (hd : s.deep = d) (h1 : 1 ≤ d) (h8 : d ≤ 8) (hpos : ∀ w ∈ s.way, 0 ≤ w) : ∀ (ws : List Int) (i : Nat) (l : List Sm) (k : Nat), (nWay s).drop i = ws → i ≤ d - 1 → Sm.sizes l ≤ 20000 → fitsOf s.kind (leadTo l k ws) = true → Short (leadTo l k ws) →
    eval tbl noExt n_r26_along [.sl 7 (Sm.rows l), .agg s.cells, .int .i64 ((i + 1 : Nat) : Int), .int .i64 k] [] = some (.sl 7 (Sm.rows (editAt s.kind l k ws)), []) := by
  have ok := hf.1
  have q0 := Si.c0 (s := s)
  have q1 := Si.len ok
  have q3 := Si.strip (s := s)
  have q5 := Si.take ok
  have qu := fun n => Si.under (s := s) n
  have c10 := Si.c10 ok
  rw [hd] at c10
  have ga : ∀ h : 0 < s.cells.length, s.cells[0] = iv s.kind := fun h => rfl
  have gd : ∀ h : 10 < s.cells.length, s.cells[10] = iv (d : Int) := fun h => by
    rw [List.getElem?_eq_getElem h] at c10; exact Option.some.inj c10
  obtain ⟨hwl, hwa⟩ := nWay_at ok hd h1 h8
  intro ws
  induction ws with
  | nil =>
    intro i l k hdr hi hsz hfit hshort
    have hid : i + 1 = d := by
      have := congrArg List.length hdr
      simp [hwl] at this; omega
    have e1 : (i : Int) + 1 = (d : Int) := by omega
    rw [leadTo] at hfit hshort
    have ht := turn_eq hsz hfit hshort
    rw [eval_M rfl rfl t_r26_along rfl]
    simp [c_r26_along, e1, q0, q1, q3, q5, ga, gd, c10, ht, editAt]
  | cons n ws ih =>
    intro i l k hdr hi hsz hfit hshort
    have hdr' : (nWay s).drop (i + 1) = ws := by rw [← List.drop_drop, hdr]; rfl
    have hil : i < d - 1 := by
      have := congrArg List.length hdr
      simp [hwl] at this; omega
    have hn : (nWay s)[i]? = some n := by
      have h0 : ((nWay s).drop i)[0]? = (nWay s)[i]? := by rw [List.getElem?_drop]; rfl
      rw [← h0, hdr]; rfl
    have hcn := hwa i n hn
    have hmem : n ∈ s.way := List.mem_of_mem_take (List.mem_of_mem_drop (List.mem_of_getElem? hn))
    have hn0 := hpos n hmem
    have hn1 := (fit_range (hf.2.2.2.1 n hmem)).2
    cases hx : l[k]? with
    | none => rw [leadTo_none (by rw [List.getElem?_eq_none_iff] at hx; exact hx)] at hfit; simp [fitsOf] at hfit
    | some x =>
      rw [leadTo_some hx] at hfit hshort
      have hxs := Sm.sizes_mem (List.mem_of_getElem? hx)
      have hss := sub_size x n
      have hrec := ih (i + 1) (x.sub n) (n / 2).toNat hdr' (by omega) (by omega) hfit hshort
      have hkl := get_len hx
      have hll := Sm.sizes_ge l
      have hrow := Sm.rows_at hx
      have hrl := Sm.rows_len l
      have hw := Sm.rows_w l
      have hfl : (Sm.rows l).flatten.length = l.length * 7 := by rw [flat_len hw, hrl]
      have hsub := Sm.flat_sub hx n (editAt s.kind (x.sub n) (n / 2).toNat ws)
      have e1 : ¬ ((i : Int) + 1 = (d : Int)) := by omega
      have e2 : (0 : Int) ≤ (i : Int) + 1 := by omega
      have e3 : (i : Int) + 1 < 8 := by omega
      have e4 : ((i : Int) + 1).toNat = i + 1 := by omega
      have e5 : n.tmod 2 = n % 2 := Int.tmod_eq_emod_of_nonneg hn0
      have e6 : IntKind.i64.wrap (n.tdiv 2) = n / 2 := by rw [Int.tdiv_eq_ediv_of_nonneg hn0, w64] <;> omega
      have e7 : IntKind.i64.wrap ((i : Int) + 1 + 1) = (i : Int) + 1 + 1 := by rw [w64] <;> omega
      have e8 : (k : Int) < l.length := by omega
      have e9 : 2 * l.length * 112 ≤ 281474976710656 := by omega
      have e10 : ((n / 2).toNat : Int) = n / 2 := by omega
      have e11 : s.cells[2 + (i + 1)]? = some (iv n) := by rw [show 2 + (i + 1) = 3 + i by omega]; exact hcn
      have t7 : Sm.rows l ≠ [] := fun h => by rw [h] at hrow; simp at hrow
      have p1 := Sm.rows_plain l
      have p2 := Sm.flat_plain (l.set k (x.withSub n (editAt s.kind (x.sub n) (n / 2).toNat ws)))
      have p3 := Sm.flat_strip (l.set k (x.withSub n (editAt s.kind (x.sub n) (n / 2).toNat ws)))
      have p4 := Sm.flat_chunk (l.set k (x.withSub n (editAt s.kind (x.sub n) (n / 2).toNat ws)))
      rw [List.length_set] at p4
      have p5 : (Sm.rows (l.set k (x.withSub n (editAt s.kind (x.sub n) (n / 2).toNat ws)))).flatten.length = l.length * 7 := by rw [flat_len (Sm.rows_w _), Sm.rows_len, List.length_set]
      have c0 : chunk 7 [] 0 0 = ([] : List (List V)) := rfl
      have e12 : ((i + 1 + 1 : Nat) : Int) = (i : Int) + 1 + 1 := by omega
      rw [e10, e12] at hrec
      rw [eval_M rfl rfl t_r26_along rfl, editAt_some hx]
      by_cases hodd : n % 2 = 1
      · have a1 : k * 7 + 5 + 1 ≤ l.length * 7 := by omega
        rw [if_pos hodd] at hsub
        have hS : x.sub n = x.els := by unfold Sm.sub; rw [if_pos hodd]
        rw [hS] at hrec hsub p2 p3 p4 p5 ⊢
        obtain ⟨op, sx, m, xe, xb, xc, g⟩ := x
        simp only [Sm.els, Sm.cells] at hrec hrow hsub p2 p3 p4 p5 ⊢
        simp [-List.all_eq_true, -List.map_flatten, -List.length_flatten, -chunk, c_r26_along, q0, q1, q3, q5, qu, ga, gd, c10, e1, e2, e3, e4, e5, e6, e7, e8, e9, e11, hodd, hrl, hrow, hrec, hfl, hsub, t7, p1, p2, p3, p4, p5, a1, c0]
      · have a1 : k * 7 + 4 + 1 ≤ l.length * 7 := by omega
        have hev : n % 2 = 0 := by omega
        rw [if_neg hodd] at hsub
        have hS : x.sub n = x.body := by unfold Sm.sub; rw [if_neg hodd]
        rw [hS] at hrec hsub p2 p3 p4 p5 ⊢
        obtain ⟨op, sx, m, xe, xb, xc, g⟩ := x
        simp only [Sm.body, Sm.cells] at hrec hrow hsub p2 p3 p4 p5 ⊢
        simp [-List.all_eq_true, -List.map_flatten, -List.length_flatten, -chunk, c_r26_along, q0, q1, q3, q5, qu, ga, gd, c10, e1, e2, e3, e4, e5, e6, e7, e8, e9, e11, hev, hrl, hrow, hrec, hfl, hsub, t7, p1, p2, p3, p4, p5, a1, c0]
/-- A program in memory whose list of procedures can be written; all else is plain. -/
def flatCells (v : V) (p : Pg) : List V := [v, .sl 7 (Sm.rows p.main), .sl 7 (Sm.rows p.recover), .sl 5 p.ocells]
theorem apply_endR {K : Heap} {q : Pg} {v : V} {z : List V} {S : List Nat} {b : Nat} (hrep : LRep 2 K q.procs.length v S (GReps PrP K q.procs)) (hnd : S.Nodup) (hb : K[b]? = some (some (flatCells v q))) (hbS : b ∉ S) (h2 : K[2]? = some (some z)) (h2S : 2 ∉ S) (hne : b ≠ 2) :
    ∃ K2, frzL (frzV deepest) K (flatCells v q) = some (q.cells, K2) ∧ K2[b]? = some (some (flatCells v q)) ∧ (∀ x, (K2.set b x)[b]? = some x) ∧ (∀ x, (K2.set b x)[2]? = some (some z)) ∧ ∀ x y, ((K2.set b x).set 2 y)[2]? = some y := by
  obtain ⟨K2, hK, hfr⟩ := frzListG (R := PrP) (g := procV) (n := 99999) PrP.frame PrP.len (fun _ => rfl) (fun x hx H r S h hnd => by
    obtain ⟨rfl, rfl⟩ := h
    exact ⟨H, frzL_cons (H1 := H) (by simp [frzV]) (frzL_cons (H1 := H) (by simp [frzV]) rfl), fun _ _ => rfl⟩) hrep hnd
  have e1 : K2[b]? = some (some (flatCells v q)) := by rw [hfr b hbS, hb]
  have e2 : K2[2]? = some (some z) := by rw [hfr 2 h2S, h2]
  refine ⟨K2, ?_, e1, fun x => set_eq e1, fun x => by rw [set_ne (fun e => hne e.symm), e2], fun x y => set_eq (y := some z) (by rw [set_ne (fun e => hne e.symm), e2])⟩
  have hp : ∀ k rows, frzV deepest K2 (.sl k rows) = some (.sl k rows, K2) := fun k rows => by simp [deepest, frzV]
  refine frzL_cons hK (frzL_cons (hp _ _) (frzL_cons (hp _ _) (frzL_cons (hp _ _) rfl)))
theorem RefApplyW (p : Pg) (hp : p.size ≤ 1000) (ht : p.txt) (s : Si) (hf : s.fit) : ∃ K, eval tbl noExt (wNo n_r26_Apply) [.agg p.cells, .agg s.cells] [] = some (.tup [.agg (p.applied s).cells, .bool (fitsOf s.kind (leadOf p s))], K) := by
  have ok := hf.1
  have hfits := refFits_eq p hp s hf
  have hcp : p.cells.length = 4 := rfl
  have hcpt : p.cells.take 4 = p.cells := rfl
  have hcps : p.cells.map V.strip = p.cells := rfl
  have hcpu : ∀ n, V.underAll n p.cells = true := fun n => rfl
  have hcpo : p.cells.all V.one = true := rfl
  have hz : zeroPg.cells = [.sl 2 [], .sl 7 [], .sl 7 [], .sl 5 []] := rfl
  have q0 := Si.c0 (s := s)
  have q1 := Si.len ok
  have q3 := Si.strip (s := s)
  have q5 := Si.take ok
  have qu := fun n => Si.under (s := s) n
  have c1 := Si.c1 (s := s)
  have c2 := Si.c2 s ok
  have c10 := Si.c10 ok
  rw [eval_W tw_flotsamref26_Apply rfl]
  unfold Pg.applied
  cases hv : fitsOf s.kind (leadOf p s) with
  | false =>
    rw [hv] at hfits
    simp [c_r26_Apply_w, hcp, hcpt, hcps, hcpu, hfits, q1, q3, q5, qu, hz]
  | true =>
    rw [hv] at hfits
    obtain ⟨g0, g1, g2, g3⟩ := leadOf_parts hv
    obtain ⟨m1, m2, m3⟩ := may_all g2
    obtain ⟨d, hd⟩ : ∃ d : Nat, s.deep = d := ⟨s.deep.toNat, by omega⟩
    have d1 : 1 ≤ d := by omega
    have d8 : d ≤ 8 := by omega
    obtain ⟨v, L, hcl, S, hrep, hnd, hat⟩ := CopyW p (by omega)
    have hvv : v = .sl 2 [] ∨ ∃ i c, v = .mg 2 i 0 p.procs.length c := by
      rcases hrep with ⟨_, rfl, _⟩ | ⟨i, c, _, _, _, rfl, _⟩
      · exact .inl rfl
      · exact .inr ⟨i, c, rfl⟩
    have ga : ∀ h : 0 < s.cells.length, s.cells[0] = iv s.kind := fun h => rfl
    have gb : ∀ h : 1 < s.cells.length, s.cells[1] = iv s.part := fun h => rfl
    obtain ⟨w0, hw0⟩ : ∃ w0, w0 = s.way.getD 0 0 := ⟨_, rfl⟩
    rw [← hw0] at c2
    have gc : ∀ h : 2 < s.cells.length, s.cells[2] = iv w0 := fun h => by
      rw [List.getElem?_eq_getElem h] at c2; exact Option.some.inj c2
    have hk : ((kWay s : Nat) : Int) = w0 := by
      have := m3 _ (getD_mem (l := s.way) (by rw [show s.way.length = 8 from hf.1]; omega))
      rw [hw0]; unfold kWay; omega
    have hs := p.size_eq
    have hfr : ∀ (X Y : List V) (j : Nat), 3 ≤ j → j < L.length + 3 → (some p.cells :: some s.cells :: some X :: (L ++ [some Y]) : Heap)[j]? = (none :: none :: none :: L : Heap)[j]? := fun X Y j h1 h2 => by
      obtain ⟨q, rfl⟩ : ∃ q, j = q + 3 := ⟨j - 3, by omega⟩
      simp only [List.getElem?_cons_succ]
      rw [List.getElem?_append_left (by omega)]
    have hrepF : ∀ (X Y : List V), LRep 2 (some p.cells :: some s.cells :: some X :: (L ++ [some Y])) p.procs.length v S (GReps PrP (some p.cells :: some s.cells :: some X :: (L ++ [some Y])) p.procs) := fun X Y =>
      hrep.frame (fun j hj => hfr X Y j (hat j hj).1 (hat j hj).2) fun rows S' hs h => GReps.frame PrP.frame h fun j hj => hfr X Y j (hat j (hs j hj)).1 (hat j (hs j hj)).2
    have hbS : L.length + 1 + 1 + 1 ∉ S := fun h => by have := hat _ h; omega
    have h2S : 2 ∉ S := fun h => by have := hat _ h; omega
    have hus : (p.edited s).cells.length = 4 := rfl
    have hut : (p.edited s).cells.take 4 = (p.edited s).cells := rfl
    have hum : (p.edited s).cells.map V.strip = (p.edited s).cells := rfl
    have huo : (p.edited s).cells.all V.one = true := rfl
    have hz4 : setMany [.own 2 [], .own 7 [], .own 7 [], .own 5 []] 0 (p.edited s).cells = (p.edited s).cells := rfl
    have hz5 : ∀ a b c d : V, setMany [a, b, c, d] 0 (p.edited s).cells = (p.edited s).cells := fun _ _ _ _ => rfl
    by_cases h0 : s.part = 0
    · have hed : p.edited s = { p with main := editAt s.kind p.main (kWay s) (nWay s) } := by unfold Pg.edited; rw [if_pos (by omega)]
      have hblk : p.blocks.getD s.part.toNat [] = p.main := by rw [h0]; rfl
      rw [g3, hblk] at hv
      have hal := refAlong_eq s hf hd d1 d8 m3 (nWay s) 0 p.main (kWay s) rfl (by omega) (by omega) hv (.of_txts (leadTo_txts _ _ _ ht.2.1))
      rw [hk] at hal
      obtain ⟨K2, k0, k1, k2, k3, k4⟩ := apply_endR (q := p.edited s) (K := some p.cells :: some s.cells :: some [.own 2 [], .own 7 [], .own 7 [], .own 5 []] :: (L ++ [some (flatCells v (p.edited s))])) (z := [.own 2 [], .own 7 [], .own 7 [], .own 5 []])
        (by rw [hed]; exact hrepF _ _) hnd (b := L.length + 1 + 1 + 1) at4 hbS rfl h2S (by omega)
      have hfc : flatCells v (p.edited s) = [v, .sl 7 (Sm.rows (editAt s.kind p.main (kWay s) (nWay s))), .sl 7 (Sm.rows p.recover), .sl 5 p.ocells] := by rw [hed]; rfl
      rw [hfc] at k0 k1
      simp at hal
      rcases hvv with rfl | ⟨i, c, rfl⟩
      · simp [-List.all_eq_true, at4, set4, c_r26_Apply_w, hcp, hcpt, hcps, hcpu, hcpo, hfits, q0, q1, q3, q5, qu, c1, c2, ga, gb, gc, callOwn, hcl, h0, hal, k0, k1, k2, k3, k4, hus, hut, hum, huo, hz4, hz5]
      · simp [-List.all_eq_true, at4, set4, c_r26_Apply_w, hcp, hcpt, hcps, hcpu, hcpo, hfits, q0, q1, q3, q5, qu, c1, c2, ga, gb, gc, callOwn, hcl, h0, hal, k0, k1, k2, k3, k4, hus, hut, hum, huo, hz4, hz5]
    · obtain ⟨m, hm⟩ : ∃ m : Nat, s.part = ((m + 1 : Nat) : Int) := ⟨(s.part - 1).toNat, by omega⟩
      have hbl := p.blocks_len
      have hmn : m < p.procs.length := by omega
      obtain ⟨x, hx⟩ : ∃ x, p.procs[m]? = some x := ⟨_, List.getElem?_eq_getElem hmn⟩
      have hblk : p.blocks.getD s.part.toNat [] = x.2 := by
        rw [hm, Int.toNat_natCast, List.getD_eq_getElem?_getD]
        simp [Pg.blocks, hx]
      rw [g3, hblk] at hv
      have hxm := List.mem_of_getElem? hx
      have hxs : Sm.sizes x.2 ≤ 1000 := by
        have hm : x.2 ∈ p.bodies := by simp only [Pg.bodies, List.mem_map]; exact ⟨x, hxm, rfl⟩
        have := sizes_flatten hm
        omega
      have hal := refAlong_eq s hf hd d1 d8 m3 (nWay s) 0 x.2 (kWay s) rfl (by omega) (by omega) hv (.of_txts (leadTo_txts _ _ _ (ht.1 x hxm).2))
      rw [hk] at hal
      have hed : p.edited s = { p with procs := p.procs.set m (x.1, editAt s.kind x.2 (kWay s) (nWay s)) } := by
        unfold Pg.edited
        rw [if_neg (by omega), show (s.part - 1).toNat = m by omega, hx]
      obtain ⟨i, cap, junk, rows, T1, Tk, T2, r, hvE, rfl, hi, hr, ⟨rfl, rfl⟩, hw, hl, hback⟩ := LRep.openG PrP.frame PrP.len (hrepF [.own 2 [], .own 7 [], .own 7 [], .own 5 []] (flatCells v p)) hx
      obtain ⟨n1, n2, n3, n4, n5, n6⟩ := nodup_open hnd
      subst hvE
      have hi3 := hat i (by simp)
      have hroom := flat_room hw hr
      have c1' : (rows.flatten ++ junk)[m * 2 + 1]? = some (.sl 7 (Sm.rows x.2)) := by rw [row_at hw hr junk 1 (by omega)]; rfl
      have hset := row_set hw hr junk 1 (by omega) (.sl 7 (Sm.rows (editAt s.kind x.2 (kWay s) (nWay s))))
      have hib : L.length + 1 + 1 + 1 ≠ i := by omega
      obtain ⟨KK, hKK⟩ : ∃ KK : Heap, KK = some p.cells :: some s.cells :: some [.own 2 [], .own 7 [], .own 7 [], .own 5 []] :: (L ++ [some (flatCells (.mg 2 i 0 p.procs.length cap) p)]) := ⟨_, rfl⟩
      rw [← hKK] at hi hback
      have hKb : KK[L.length + 1 + 1 + 1]? = some (some (flatCells (.mg 2 i 0 p.procs.length cap) p)) := by rw [hKK]; exact at4
      have hbk := hback (KK.set i (some ((rows.set m (procV (x.1, editAt s.kind x.2 (kWay s) (nWay s)))).flatten ++ junk))) (x.1, editAt s.kind x.2 (kWay s) (nWay s)) _ [] (fun j hj => set_ne (fun e => by
        subst e
        rcases List.mem_append.1 hj with h | h
        · exact n1 h
        · exact n3 h)) (set_eq hi) ⟨rfl, rfl⟩
      have hp1 : (rows.set m ((procV x).set 1 (.sl 7 (Sm.rows (editAt s.kind x.2 (kWay s) (nWay s)))))) = rows.set m (procV (x.1, editAt s.kind x.2 (kWay s) (nWay s))) := rfl
      rw [hp1] at hset
      have hfc : flatCells (.mg 2 i 0 p.procs.length cap) (p.edited s) = [.mg 2 i 0 p.procs.length cap, .sl 7 (Sm.rows p.main), .sl 7 (Sm.rows p.recover), .sl 5 p.ocells] := by rw [hed]; rfl
      have hfc' : flatCells (.mg 2 i 0 p.procs.length cap) (p.edited s) = flatCells (.mg 2 i 0 p.procs.length cap) p := by rw [hed]; rfl
      have h2K : KK[2]? = some (some [.own 2 [], .own 7 [], .own 7 [], .own 5 []]) := by rw [hKK]; rfl
      have hsub : ∀ j, j ∈ i :: (T1 ++ ([] ++ T2)) → j ∈ i :: (T1 ++ ([] ++ T2)) := fun j hj => hj
      obtain ⟨K2, k0, k1, k2, k3, k4⟩ := apply_endR (q := p.edited s) (v := .mg 2 i 0 p.procs.length cap) (z := [.own 2 [], .own 7 [], .own 7 [], .own 5 []]) (b := L.length + 1 + 1 + 1)
        (by
          have := hbk
          rw [List.length_set] at this
          rw [hed]
          simp only [List.length_set]
          exact this) hnd (by rw [set_ne hib, hKb, hfc']) hbS (by rw [set_ne (by omega), h2K]) h2S (by omega)
      rw [hfc] at k0 k1
      have e1 : IntKind.i64.wrap (s.part - 1) = (m : Int) := by
        have := fit_range hf.2.2.1
        rw [w64] <;> omega
      have e2 : (m : Int) < p.procs.length := by omega
      have e3 : m * 2 + 1 + 1 ≤ rows.flatten.length + junk.length := by omega
      have hKe : (some p.cells :: some s.cells :: some [.own 2 [], .own 7 [], .own 7 [], .own 5 []] :: (L ++ [some [.mg 2 i 0 p.procs.length cap, .sl 7 (Sm.rows p.main), .sl 7 (Sm.rows p.recover), .sl 5 p.ocells]]) : Heap) = KK := by rw [hKK]; rfl
      have hKb' : KK[L.length + 1 + 1 + 1]? = some (some [.mg 2 i 0 p.procs.length cap, .sl 7 (Sm.rows p.main), .sl 7 (Sm.rows p.recover), .sl 5 p.ocells]) := hKb
      have hK1 : KK[1]? = some (some s.cells) := by rw [hKK]; rfl
      have hKs : (KK.set i (some ((rows.set m (procV (x.1, editAt s.kind x.2 (kWay s) (nWay s)))).flatten ++ junk)))[L.length + 1 + 1 + 1]? = some (some [.mg 2 i 0 p.procs.length cap, .sl 7 (Sm.rows p.main), .sl 7 (Sm.rows p.recover), .sl 5 p.ocells]) := by rw [set_ne hib, hKb']
      simp at hal
      simp [-List.all_eq_true, -List.length_flatten, at4, set4, c_r26_Apply_w, hcp, hcpt, hcps, hcpu, hcpo, hfits, q0, q1, q3, q5, qu, c1, c2, ga, gb, gc, callOwn, hcl, h0, hal, hKe, hKb', hK1, e1, e2, e3, hi, c1', hset, hKs, k0, k1, k2, k3, k4, hus, hut, hum, huo, hz4, hz5]
theorem knows26 : eval tbl noExt n_flotsamlaw26_knows [] [] = some (.bool true, []) := (eval_iff _ _ _ _ _ _).2 ⟨400, by kernel_rfl⟩
theorem Pg.applied_size (p : Pg) (s : Si) : (p.applied s).size ≤ p.size := by
  unfold Pg.applied
  split
  · exact p.edited_size s
  · exact Nat.zero_le _
theorem RewriteTells_eq (p : Pg) (_ : p.fit) (s : Si) (hf : s.fit) : eval tbl noExt n_flotsamlaw26_RewriteTells [.agg p.cells, .agg s.cells] [] = some (.bool true, []) := by
  obtain ⟨b, hb, hs⟩ := Small_eq p
  have ok := hf.1
  have hcp : p.cells.length = 4 := rfl
  have hcpt : p.cells.take 4 = p.cells := rfl
  have hcps : p.cells.map V.strip = p.cells := rfl
  have hcpu : ∀ n, V.underAll n p.cells = true := fun n => rfl
  have hcpo : p.cells.all V.one = true := rfl
  have q1 := Si.len ok
  have q3 := Si.strip (s := s)
  have q5 := Si.take ok
  have qu := fun n => Si.under (s := s) n
  have qo := Si.one (s := s)
  rw [eval_M rfl rfl t_flotsamlaw26_RewriteTells rfl]
  cases b with
  | false => simp [c_flotsamlaw26_RewriteTells, hcp, hcpt, hcps, hcpu, hb, knows26]
  | true =>
    obtain ⟨hsz, htx⟩ := hs rfl
    obtain ⟨K1, h1⟩ := ApplyW p (by omega) htx s hf
    obtain ⟨K2, h2⟩ := RefApplyW p (by omega) htx s hf
    have h3 := Number_eq p (by omega) s hf
    have h4 := refNumber_eq p (by omega) s hf
    have has := p.applied_size s
    have h5 := refSame_eq (p.applied s) (by omega)
    obtain ⟨q, hq⟩ : ∃ q, q = p.applied s := ⟨_, rfl⟩
    rw [← hq] at h1 h2 h5
    have hqc : q.cells = [.sl 2 q.pcells, .sl 7 (Sm.rows q.main), .sl 7 (Sm.rows q.recover), .sl 5 q.ocells] := rfl
    rw [hqc] at h1 h2 h5
    obtain ⟨n, hn⟩ : ∃ n : Nat, n = (if (leadOf p s).isEmpty then 0 else numOf p s) := ⟨_, rfl⟩
    rw [← hn] at h3 h4
    simp [c_flotsamlaw26_RewriteTells, hcp, hcpt, hcps, hcpu, hb, knows26, q1, q3, q5, qu, h1, h2, h3, h4, h5]
end Go.AM.Spec
