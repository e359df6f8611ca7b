/-
  The parts of this proof that speak of the functions one by one.
-/
import Derived.Test.YtkpopdcojheniaaSpecSi
import Derived.Test.YtkpopdcojheniaaSpecTr
import Derived.Test.YtkpopdcojheniaaSpecRa
namespace Go.AM.Spec
set_option linter.unusedVariables false
set_option linter.unusedSimpArgs false
set_option maxHeartbeats 2000000
set_option maxRecDepth 10000
theorem blocks_at {p : Pg} {pt : Nat} (h : pt < p.blocks.length) : (pt = 0 ∧ p.blocks.getD pt [] = p.main) ∨ ∃ x, 0 < pt ∧ p.procs[pt - 1]? = some x ∧ p.blocks.getD pt [] = x.2 := by
  rcases Nat.eq_zero_or_pos pt with rfl | h0
  · exact .inl ⟨rfl, rfl⟩
  · have hbl := p.blocks_len
    obtain ⟨x, hx⟩ : ∃ x, p.procs[pt - 1]? = some x := ⟨_, List.getElem?_eq_getElem (by omega)⟩
    refine .inr ⟨x, h0, hx, ?_⟩
    obtain ⟨m, rfl⟩ : ∃ m, pt = m + 1 := ⟨pt - 1, by omega⟩
    rw [List.getD_eq_getElem?_getD]
    simp only [Nat.add_sub_cancel] at hx
    simp [Pg.blocks, hx]
theorem led_parts {p : Pg} {s : Si} (h : leadOf p s ≠ []) : 0 ≤ s.part ∧ s.part < p.blocks.length ∧ s.may = true ∧ leadOf p s = leadTo (p.blocks.getD s.part.toNat []) (kWay s) (nWay s) := by
  unfold leadOf at h ⊢
  split at h
  · rename_i hc
    rw [if_pos hc]
    exact ⟨hc.1, hc.2.1, hc.2.2, rfl⟩
  · exact absurd rfl h
set_option maxHeartbeats 1000000
set_option maxHeartbeats 2000000
/-- A procedure that is plain data, in a list that can be written. -/
def PrP (H : Heap) (x : List UInt8 × List Sm) (cells : List V) (S : List Nat) : Prop := cells = procV x ∧ S = []
theorem PrP.frame : ∀ (H K : Heap) (x : List UInt8 × List Sm) (r : List V) (S : List Nat), PrP H x r S → (∀ i ∈ S, K[i]? = H[i]?) → PrP K x r S := fun _ _ _ _ _ h _ => h
theorem PrP.len : ∀ (H : Heap) (x : List UInt8 × List Sm) (r : List V) (S : List Nat), PrP H x r S → r.length = 2 := fun _ _ _ _ h => by rw [h.1]; rfl
theorem OL.frame {α : Type} {R : Heap → α → List V → List Nat → Prop} (hR : ∀ H K a r S, R H a r S → (∀ i ∈ S, K[i]? = H[i]?) → R K a r S) {k n : Nat} {K K' : Heap} {v : V} {l : List α} {S : List Nat} (h : OL R k n K v l S) (hK : ∀ i, n ≤ i → K'[i]? = K[i]?) (hl : K'.length = K.length) : OL R k n K' v l S := by
  refine ⟨h.nd, fun i hi => by rw [hl]; exact h.at_ i hi, ?_⟩
  rcases h.is with h1 | ⟨i, rows, S', h1, h2, rfl, h4, h5⟩
  · exact .inl h1
  · exact .inr ⟨i, rows, S', h1, h2, rfl, by rw [hK i (h.at_ i (by simp)).1, h4], GReps.frame hR h5 fun j hj => hK j (h.at_ j (by simp [hj])).1⟩
def orows (l : List (List UInt8 × Ex)) : List (List V) := l.map fun x => .str x.1 :: x.2.cells
theorem fits_kind {kind : Int} {X : List Sm} (h : fitsOf kind X = true) : kind = 1 ∨ kind = 2 ∨ kind = 3 ∨ kind = 4 ∨ kind = 5 ∨ kind = 6 ∨ kind = 7 ∨ kind = 8 := by
  cases X with
  | nil => simp [fitsOf] at h
  | cons x r =>
    rw [fitsOf_cons] at h
    by_cases h1 : kind = 1; exact .inl h1
    by_cases h2 : kind = 2; exact .inr (.inl h2)
    by_cases h3 : kind = 3; exact .inr (.inr (.inl h3))
    by_cases h4 : kind = 4; exact .inr (.inr (.inr (.inl h4)))
    by_cases h5 : kind = 5; exact .inr (.inr (.inr (.inr (.inl h5))))
    by_cases h6 : kind = 6; exact .inr (.inr (.inr (.inr (.inr (.inl h6)))))
    by_cases h7 : kind = 7; exact .inr (.inr (.inr (.inr (.inr (.inr (.inl h7))))))
    by_cases h8 : kind = 8; exact .inr (.inr (.inr (.inr (.inr (.inr (.inr h8))))))
    simp [h1, h2, h3, h4, h5, h6, h7, h8] at h
theorem set_mid {α : Type} {A B : List α} {x y : α} {k : Nat} (h : A.length = k) : (A ++ x :: B).set k y = A ++ y :: B := by
  rw [List.set_append_right _ _ (by omega), h, Nat.sub_self]; rfl
/-! ## The walk -/
/-! ## Plain: where a way leads in what has been changed at its end -/
theorem withSub_sub (x : Sm) (n : Int) (l : List Sm) : (x.withSub n l).sub n = l := by
  obtain ⟨op, s, m, xe, xb, xc, g⟩ := x
  by_cases h : n % 2 = 1 <;> simp [Sm.withSub, Sm.sub, h, Sm.els, Sm.body]
theorem withSub_again (x : Sm) (n : Int) (l l' : List Sm) : (x.withSub n l).withSub n l' = x.withSub n l' := by
  obtain ⟨op, s, m, xe, xb, xc, g⟩ := x
  by_cases h : n % 2 = 1 <;> simp [Sm.withSub, h]
theorem withSub_id (x : Sm) (n : Int) : x.withSub n (x.sub n) = x := by
  obtain ⟨op, s, m, xe, xb, xc, g⟩ := x
  by_cases h : n % 2 = 1 <;> simp [Sm.withSub, Sm.sub, h, Sm.els, Sm.body]
theorem edit_at {kind : Int} {A r : List Sm} {x : Sm} {k : Nat} (hA : A.length = k) : edit kind (A ++ x :: r) k = A ++ edit kind (x :: r) 0 := by
  unfold edit
  have h1 : (A ++ x :: r)[k]? = some x := by rw [List.getElem?_append_right (by omega), hA, Nat.sub_self]; rfl
  rw [h1]
  simp only [List.getElem?_cons_zero]
  split
  · rw [set_mid hA]; rfl
  split
  · rw [set_mid hA]; rfl
  split
  · rw [set_mid hA]; rfl
  split
  · unfold swapAt
    rw [h1]
    have h2 : (A ++ x :: r)[k + 1]? = r.head? := by rw [List.getElem?_append_right (by omega), show k + 1 - A.length = 1 by omega]; cases r <;> rfl
    rw [h2]
    cases r with
    | nil => rfl
    | cons y r =>
      simp only [List.head?_cons, List.getElem?_cons_zero, List.getElem?_cons_succ, Nat.zero_add]
      rw [set_mid hA, show A ++ y :: y :: r = (A ++ [y]) ++ y :: r by simp, set_mid (by simp [hA])]
      simp
  · rw [eraseIdx_mid hA]; rfl
theorem edit_drop {kind : Int} {l : List Sm} {k : Nat} {x : Sm} {r : List Sm} (h : l.drop k = x :: r) : (edit kind l k).drop k = edit kind (x :: r) 0 := by
  have hl : k < l.length := by
    rcases Nat.lt_or_ge k l.length with h' | h'
    · exact h'
    · rw [List.drop_eq_nil_of_le h'] at h; cases h
  have he : l = l.take k ++ x :: r := by rw [← h, List.take_append_drop]
  have hA : (l.take k).length = k := by simp; omega
  rw [he, edit_at hA]
  rw [List.drop_append, List.drop_eq_nil_of_le (by omega), hA, Nat.sub_self, List.nil_append, List.drop_zero]
theorem leadTo_edit (kind : Int) : ∀ (ws : List Int) (l : List Sm) (k : Nat) (x : Sm) (r : List Sm), leadTo l k ws = x :: r → leadTo (editAt kind l k ws) k ws = edit kind (x :: r) 0
  | [], l, k, x, r, h => by rw [editAt, leadTo]; rw [leadTo] at h; exact edit_drop h
  | n :: ws, l, k, x, r, h => by
    cases hx : l[k]? with
    | none => rw [leadTo_none (by rw [List.getElem?_eq_none_iff] at hx; exact hx)] at h; cases h
    | some y =>
      rw [leadTo_some hx] at h
      rw [editAt_some hx]
      have hk := get_len hx
      rw [leadTo_some (List.getElem?_set_self hk), withSub_sub]
      exact leadTo_edit kind ws _ _ x r h
theorem swap_again : ∀ (ws : List Int) (l : List Sm) (k : Nat) (x y : Sm) (r : List Sm), leadTo l k ws = x :: y :: r → editAt 5 (editAt 5 l k ws) k ws = l
  | [], l, k, x, y, r, h => by
    rw [leadTo] at h
    rw [editAt, editAt]
    have hl : k < l.length := by
      rcases Nat.lt_or_ge k l.length with h' | h'
      · exact h'
      · rw [List.drop_eq_nil_of_le h'] at h; cases h
    have he : l = l.take k ++ x :: y :: r := by rw [← h, List.take_append_drop]
    have hA : (l.take k).length = k := by simp; omega
    have e1 : ∀ a b : Sm, edit 5 (a :: b :: r) 0 = b :: a :: r := fun a b => rfl
    rw [he, edit_at hA, e1, edit_at hA, e1]
  | n :: ws, l, k, x, y, r, h => by
    cases hx : l[k]? with
    | none => rw [leadTo_none (by rw [List.getElem?_eq_none_iff] at hx; exact hx)] at h; cases h
    | some z =>
      rw [leadTo_some hx] at h
      rw [editAt_some hx]
      have hk := get_len hx
      rw [editAt_some (List.getElem?_set_self hk), withSub_sub, withSub_again, swap_again ws _ _ x y r h, withSub_id, List.set_set, set_id hx]
/-- The block that has been changed, and all others. -/
theorem edited_block {p : Pg} {s : Si} (h0 : 0 ≤ s.part) (h1 : s.part < p.blocks.length) : (p.edited s).blocks.length = p.blocks.length ∧ (p.edited s).blocks.getD s.part.toNat [] = editAt s.kind (p.blocks.getD s.part.toNat []) (kWay s) (nWay s) := by
  unfold Pg.edited
  by_cases h : s.part ≤ 0
  · have e : s.part = 0 := by omega
    rw [if_pos h, e]
    exact ⟨by simp [Pg.blocks], rfl⟩
  · rw [if_neg h]
    have hbl := p.blocks_len
    obtain ⟨m, hm⟩ : ∃ m : Nat, s.part = ((m + 1 : Nat) : Int) := ⟨(s.part - 1).toNat, by omega⟩
    have hmn : m < p.procs.length := by omega
    obtain ⟨x, hx⟩ : ∃ x, p.procs[m]? = some x := ⟨_, List.getElem?_eq_getElem hmn⟩
    rw [show (s.part - 1).toNat = m by omega, hx, show s.part.toNat = m + 1 by omega]
    refine ⟨by simp [Pg.blocks], ?_⟩
    rw [List.getD_eq_getElem?_getD, List.getD_eq_getElem?_getD]
    have hml : m < (p.procs.map (·.2)).length := by simpa using hmn
    simp [Pg.blocks, hx, List.getElem?_set_self hml]
theorem leadOf_edited {p : Pg} {s : Si} {x : Sm} {r : List Sm} (h : leadOf p s = x :: r) : leadOf (p.edited s) s = edit s.kind (x :: r) 0 := by
  obtain ⟨g0, g1, g2, g3⟩ := led_parts (p := p) (s := s) (by rw [h]; simp)
  obtain ⟨b1, b2⟩ := edited_block (s := s) g0 g1
  have hl : leadOf (p.edited s) s = leadTo ((p.edited s).blocks.getD s.part.toNat []) (kWay s) (nWay s) := by
    unfold leadOf
    rw [if_pos ⟨g0, by rw [b1]; exact g1, g2⟩]
    rfl
  rw [hl, b2]
  rw [g3] at h
  exact leadTo_edit s.kind (nWay s) _ _ x r h
theorem edited_again {p : Pg} {s : Si} (h5 : s.kind = 5) {x y : Sm} {r : List Sm} (h : leadOf p s = x :: y :: r) : (p.edited s).edited s = p := by
  obtain ⟨g0, g1, g2, g3⟩ := led_parts (p := p) (s := s) (by rw [h]; simp)
  rw [g3] at h
  have hs := swap_again (nWay s) _ _ x y r h
  have hbl := p.blocks_len
  by_cases h0 : s.part ≤ 0
  · have e : s.part.toNat = 0 := by omega
    rw [e] at hs
    have hm : p.blocks.getD 0 [] = p.main := rfl
    rw [hm] at hs
    unfold Pg.edited
    rw [if_pos h0, if_pos h0, h5]
    simp only [hs]
  · obtain ⟨m, hm⟩ : ∃ m : Nat, s.part = ((m + 1 : Nat) : Int) := ⟨(s.part - 1).toNat, by omega⟩
    have hmn : m < p.procs.length := by omega
    obtain ⟨z, hz⟩ : ∃ z, p.procs[m]? = some z := ⟨_, List.getElem?_eq_getElem hmn⟩
    have hb : p.blocks.getD s.part.toNat [] = z.2 := by
      rw [hm, Int.toNat_natCast, List.getD_eq_getElem?_getD]
      simp [Pg.blocks, hz]
    rw [hb] at hs
    have e : (s.part - 1).toNat = m := by omega
    unfold Pg.edited
    rw [if_neg h0, if_neg h0, e, hz, h5]
    simp only [List.getElem?_set_self hmn, hs, List.set_set]
    have : p.procs.set m (z.1, z.2) = p.procs := set_id hz
    rw [this]
/-! ## Texts stay short -/
theorem half_txt {e : Ex} (h : e.txt) : e.half.txt := by
  obtain ⟨op, n, s, x⟩ := e
  exact ⟨by have := h.1; simp; omega, h.2⟩
theorem halfLast_txts {l : List Ex} (h : Ex.txts l) : Ex.txts (halfLast l) := by
  unfold halfLast
  cases he : l.getLast? with
  | none => exact h
  | some e =>
    refine etxts_mem.2 fun x hx => ?_
    rcases List.mem_or_eq_of_mem_set hx with h' | rfl
    · exact etxts_mem.1 h x h'
    · exact half_txt (etxts_mem.1 h e (List.mem_of_getLast? he))
theorem set_txts {l : List Sm} {k : Nat} {y : Sm} (h : Sm.txts l) (hy : y.txt) : Sm.txts (l.set k y) := txts_mem.2 fun x hx => by
  rcases List.mem_or_eq_of_mem_set hx with h' | rfl
  · exact txts_mem.1 h x h'
  · exact hy
theorem edit_txts {kind : Int} {l : List Sm} {k : Nat} (h : Sm.txts l) : Sm.txts (edit kind l k) := by
  unfold edit
  cases hx : l[k]? with
  | none => exact h
  | some x =>
    have hxt := txts_mem.1 h x (List.mem_of_getElem? hx)
    simp only
    split
    · exact set_txts h (by obtain ⟨op, s, m, xe, xb, xc, g⟩ := x; exact hxt)
    split
    · exact set_txts h (by obtain ⟨op, s, m, xe, xb, xc, g⟩ := x; exact hxt)
    split
    · exact set_txts h (by obtain ⟨op, s, m, xe, xb, xc, g⟩ := x; exact ⟨hxt.1, halfLast_txts hxt.2.1, hxt.2.2⟩)
    split
    · unfold swapAt
      rw [hx]
      cases hy : l[k + 1]? with
      | none => exact h
      | some y => exact set_txts (set_txts h (txts_mem.1 h y (List.mem_of_getElem? hy))) hxt
    · exact txts_mem.2 fun y hy => txts_mem.1 h y (List.mem_of_mem_eraseIdx hy)
theorem editAt_txts (kind : Int) : ∀ (ws : List Int) (l : List Sm) (k : Nat), Sm.txts l → Sm.txts (editAt kind l k ws)
  | [], l, k, h => edit_txts h
  | n :: ws, l, k, h => by
    cases hx : l[k]? with
    | none => rw [editAt, hx]; exact h
    | some x =>
      rw [editAt_some hx]
      have hxt := txts_mem.1 h x (List.mem_of_getElem? hx)
      have hs : Sm.txts (x.sub n) := by
        obtain ⟨op, s, m, xe, xb, xc, g⟩ := x
        unfold Sm.sub
        split
        · exact hxt.2.2.2
        · exact hxt.2.2.1
      have hr := editAt_txts kind ws (x.sub n) (n / 2).toNat hs
      refine set_txts h ?_
      obtain ⟨op, s, m, xe, xb, xc, g⟩ := x
      generalize editAt kind (Sm.sub (.mk op s m xe xb xc g) n) (n / 2).toNat ws = L at hr
      by_cases h : n % 2 = 1
      · simp only [Sm.withSub, h, if_true]; exact ⟨hxt.1, hxt.2.1, hxt.2.2.1, hr⟩
      · simp only [Sm.withSub, h, if_false]; exact ⟨hxt.1, hxt.2.1, hr, hxt.2.2.2⟩
theorem Pg.edited_txt {p : Pg} (h : p.txt) (s : Si) : (p.edited s).txt := by
  unfold Pg.edited
  split
  · exact ⟨h.1, editAt_txts _ _ _ _ h.2.1, h.2.2⟩
  · split
    · rename_i x hx
      refine ⟨fun y hy => ?_, h.2⟩
      rcases List.mem_or_eq_of_mem_set hy with h' | rfl
      · exact h.1 y h'
      · have := h.1 x (List.mem_of_getElem? hx)
        exact ⟨this.1, editAt_txts _ _ _ _ this.2⟩
    · exact h
set_option maxHeartbeats 4000000
theorem knows26a : eval tbl noExt n_flotsamlaw26_knows [] [] = some (.bool true, []) := (eval_iff _ _ _ _ _ _).2 ⟨400, by kernel_rfl⟩
theorem half_rows {xe : List Ex} {eL : Ex} (h : xe.getLast? = some eL) : ∃ q, (Ex.rows xe).length = q + 1 ∧ (Ex.rows (halfLast xe)).length = q + 1 ∧ (Ex.rows xe)[q]? = some eL.cells ∧ (Ex.rows (halfLast xe))[q]? = some eL.half.cells ∧ (halfLast xe).getLast? = some eL.half ∧ xe.length = q + 1 := by
  have h' := h
  rw [List.getLast?_eq_getElem?] at h'
  have hl := get_len h'
  obtain ⟨m, hm⟩ : ∃ m, xe.length = m + 1 := ⟨xe.length - 1, by omega⟩
  have hme : xe[m]? = some eL := by rw [← h', hm]; rfl
  have hh : halfLast xe = xe.set m eL.half := by unfold halfLast; rw [h]; simp [hm]
  have hml : m < xe.length := by omega
  refine ⟨m, by rw [Ex.rows_len, hm], by rw [Ex.rows_len, hh, List.length_set, hm], by rw [Ex.rows_eq, List.getElem?_map, hme]; rfl, ?_, ?_, hm⟩
  · rw [hh, Ex.rows_eq, List.getElem?_map, List.getElem?_set_self hml]; rfl
  · rw [hh, List.getLast?_eq_getElem?, List.length_set, hm, Nat.add_sub_cancel, List.getElem?_set_self hml]
theorem RewriteAgain_eq (p : Pg) (_ : p.fit) (s : Si) (hf : s.fit) : eval tbl noExt n_flotsamlaw26_RewriteAgain [.agg p.cells, .agg s.cells] [] = some (.bool true, []) := by
  obtain ⟨b, hb, hs⟩ := Small_eq p
  have ok := hf.1
  have hcp : p.cells.length = 4 := rfl
  have hcpt : p.cells.take 4 = p.cells := rfl
  have hcps : p.cells.map V.strip = p.cells := rfl
  have hcpu : ∀ n, V.underAll n p.cells = true := fun n => rfl
  have hcpo : p.cells.all V.one = true := rfl
  have q0 := Si.c0 (s := s)
  have ga : ∀ h : 0 < s.cells.length, s.cells[0] = iv s.kind := fun h => rfl
  have q1 := Si.len ok
  have q3 := Si.strip (s := s)
  have q5 := Si.take ok
  have qu := fun n => Si.under (s := s) n
  have qo := Si.one (s := s)
  rw [eval_M rfl rfl t_flotsamlaw26_RewriteAgain rfl]
  cases b with
  | false => simp [c_flotsamlaw26_RewriteAgain, hcp, hcpt, hcps, hcpu, hb, knows26a]
  | true =>
    obtain ⟨hsz, htx⟩ := hs rfl
    obtain ⟨K1, h1⟩ := ApplyW p (by omega) htx s hf
    cases hv : fitsOf s.kind (leadOf p s) with
    | false =>
      rw [hv] at h1
      unfold Pg.applied at h1
      rw [hv, if_neg (by simp)] at h1
      have hz : zeroPg.cells = [.sl 2 [], .sl 7 [], .sl 7 [], .sl 5 []] := rfl
      rw [hz] at h1
      simp [c_flotsamlaw26_RewriteAgain, hcp, hcpt, hcps, hcpu, hb, knows26a, q1, q3, q5, qu, h1]
    | true =>
      rw [hv] at h1
      unfold Pg.applied at h1
      rw [hv, if_pos rfl] at h1
      have hes := p.edited_size s
      obtain ⟨K2, h2⟩ := ApplyW (p.edited s) (by omega) (p.edited_txt htx s) s hf
      have h3 := Fits_eq (p.edited s) (by omega) s hf
      have h4 := At_eq (p.edited s) (by omega) s hf
      have h5 := refAt_eq p (by omega) s hf
      have h6 := refSame_eq p (by omega)
      cases hX : leadOf p s with
      | nil => rw [hX] at hv; simp [fitsOf] at hv
      | cons x r =>
        rw [hX] at hv h5
        have hkk := fits_kind hv
        have hle := leadOf_edited hX
        rw [hle] at h2 h3 h4
        have hxm : ∀ e ∈ leadOf p s, e.size ≤ 1000 := fun e he => by have := Sm.sizes_mem he; have := leadOf_sizes (p := p) (by omega) s; omega
        have hsh : Short (leadOf p s) := by
          obtain ⟨g0, g1, g2, g3⟩ := led_parts (p := p) (s := s) (by rw [hX]; simp)
          rw [g3]
          refine .of_txts (leadTo_txts _ _ _ ?_)
          rcases blocks_at (p := p) (pt := s.part.toNat) (by omega) with ⟨_, hb⟩ | ⟨z, _, hz, hb⟩
          · rw [hb]; exact htx.2.1
          · rw [hb]; exact (htx.1 z (List.mem_of_getElem? hz)).2
        obtain ⟨kd, hkd⟩ : ∃ kd, kd = s.kind := ⟨_, rfl⟩
        have hag : kd = 5 → (p.edited s).edited s = p := fun h => by
          rw [← hkd] at hv
          subst h
          rw [fitsOf_cons] at hv
          simp only [show ¬ (5 : Int) = 1 by decide, show ¬ (5 : Int) = 2 by decide, show ¬ (5 : Int) = 3 by decide, show ¬ (5 : Int) = 4 by decide, if_false, if_true, Bool.and_eq_true] at hv
          cases r with
          | nil => simp [nextWrites] at hv
          | cons y r => exact edited_again hkd.symm hX
        unfold Pg.applied at h2
        rw [hle] at h2
        obtain ⟨q, hq⟩ : ∃ q, q = p.edited s := ⟨_, rfl⟩
        rw [← hq] at h1 h2 h3 h4 hag
        rw [← hkd] at q0 ga hv hkk h2 h3 h4
        have hqc : q.cells = [.sl 2 q.pcells, .sl 7 (Sm.rows q.main), .sl 7 (Sm.rows q.recover), .sl 5 q.ocells] := rfl
        have hpc : p.cells = [.sl 2 p.pcells, .sl 7 (Sm.rows p.main), .sl 7 (Sm.rows p.recover), .sl 5 p.ocells] := rfl
        have hz : zeroPg.cells = [.sl 2 [], .sl 7 [], .sl 7 [], .sl 5 []] := rfl
        have hrest : ∀ q2 : Pg, q2.cells = [.sl 2 q2.pcells, .sl 7 (Sm.rows q2.main), .sl 7 (Sm.rows q2.recover), .sl 5 q2.ocells] := fun _ => rfl
        rcases hkk with rfl | rfl | rfl | rfl | rfl | rfl | rfl | rfl
        · generalize (if fitsOf 1 (edit 1 (x :: r) 0) = true then q.edited s else zeroPg) = q2 at h2
          rw [hqc] at h1 h2; rw [hrest q2] at h2
          simp [c_flotsamlaw26_RewriteAgain, hcp, hcpt, hcps, hcpu, hb, knows26a, q0, ga, q1, q3, q5, qu, h1, h2]
        · have hno : fitsOf 2 (edit 2 (x :: r) 0) = false := by
            cases x; rfl
          rw [hno] at h2 h3
          rw [if_neg (by simp), hz] at h2
          rw [hqc] at h1 h2 h3
          simp [c_flotsamlaw26_RewriteAgain, hcp, hcpt, hcps, hcpu, hb, knows26a, q0, ga, q1, q3, q5, qu, h1, h2, h3]
        · generalize (if fitsOf 3 (edit 3 (x :: r) 0) = true then q.edited s else zeroPg) = q2 at h2
          rw [hqc] at h1 h2; rw [hrest q2] at h2
          simp [c_flotsamlaw26_RewriteAgain, hcp, hcpt, hcps, hcpu, hb, knows26a, q0, ga, q1, q3, q5, qu, h1, h2]
        · generalize (if fitsOf 4 (edit 4 (x :: r) 0) = true then q.edited s else zeroPg) = q2 at h2
          rw [hqc] at h1 h2; rw [hrest q2] at h2
          simp [c_flotsamlaw26_RewriteAgain, hcp, hcpt, hcps, hcpu, hb, knows26a, q0, ga, q1, q3, q5, qu, h1, h2]
        · have hyes : fitsOf 5 (edit 5 (x :: r) 0) = true := by
            cases r with
            | nil => simp [fitsOf, nextWrites] at hv
            | cons y r =>
              have e : edit 5 (x :: y :: r) 0 = y :: x :: r := rfl
              rw [e]
              rw [fitsOf_cons] at hv ⊢
              simp [nextWrites] at hv ⊢
              exact ⟨hv.2, hv.1⟩
          rw [hyes, if_pos rfl, hag rfl] at h2
          rw [hpc] at h2 h6 h1 hb
          rw [hqc] at h1 h2
          simp only [hpc]
          simp [c_flotsamlaw26_RewriteAgain, hb, knows26a, q0, ga, q1, q3, q5, qu, h1, h2, h6]
        · have hno : fitsOf 6 (edit 6 (x :: r) 0) = false := by
            cases x; simp [edit, fitsOf_cons, Sm.unmark, Sm.commit]
          rw [hno] at h2 h3
          rw [if_neg (by simp), hz] at h2
          rw [hqc] at h1 h2 h3
          simp [c_flotsamlaw26_RewriteAgain, hcp, hcpt, hcps, hcpu, hb, knows26a, q0, ga, q1, q3, q5, qu, h1, h2, h3]
        · -- torn
          have hsx := hsh x
          rw [hX] at hsx hxm
          have hxs := hxm x (by simp)
          obtain ⟨op, sx, m, xe, xb, xc, g⟩ := x
          have hed : edit 7 (Sm.mk op sx m xe xb xc g :: r) 0 = Sm.mk op sx m (halfLast xe) xb xc g :: r := rfl
          rw [hed] at h2 h4
          rw [fitsOf_cons] at hv
          simp only [show ¬ (7 : Int) = 1 by decide, show ¬ (7 : Int) = 2 by decide, show ¬ (7 : Int) = 3 by decide, show ¬ (7 : Int) = 4 by decide, show ¬ (7 : Int) = 5 by decide, show ¬ (7 : Int) = 6 by decide, if_false, if_true, Sm.torn, Bool.and_eq_true] at hv
          obtain ⟨hwr, hlt⟩ := hv
          unfold lastText at hlt
          simp only [Sm.exprs] at hlt
          cases heL : xe.getLast? with
          | none => rw [heL] at hlt; simp at hlt
          | some eL =>
            rw [heL] at hlt
            have htl := hsx eL rfl heL
            obtain ⟨n, r1, r2, r3, r4, r5, r6⟩ := half_rows heL
            obtain ⟨eo, en, t, ex⟩ := eL
            simp only [Ex.op, Ex.text, Bool.and_eq_true, decide_eq_true_eq] at hlt htl
            obtain ⟨u, hu⟩ : ∃ u, u = t.take (t.length / 2) := ⟨_, rfl⟩
            have hul : u.length = t.length / 2 := by rw [hu, List.length_take]; omega
            have htu : t.take u.length = u := by rw [hul, hu]
            have hxn : n ≤ 1000 := by
              have := Ex.sizes_ge xe
              simp only [Sm.size] at hxs; omega
            have hfit2 : fitsOf 7 (Sm.mk op sx m (halfLast xe) xb xc g :: r) = decide ((2 : Int) ≤ u.length) := by
              rw [fitsOf_cons]
              simp only [show ¬ (7 : Int) = 1 by decide, show ¬ (7 : Int) = 2 by decide, show ¬ (7 : Int) = 3 by decide, show ¬ (7 : Int) = 4 by decide, show ¬ (7 : Int) = 5 by decide, show ¬ (7 : Int) = 6 by decide, if_false, if_true, Sm.torn]
              have hw2 : Sm.writes (.mk op sx m (halfLast xe) xb xc g) = Sm.writes (.mk op sx m xe xb xc g) := rfl
              rw [hw2, hwr]
              unfold lastText
              simp only [Sm.exprs, r5]
              have e1 : (Ex.half (.mk eo en t ex)).op = eo := rfl
              have e2 : (Ex.half (.mk eo en t ex)).text = u := hu.symm
              rw [e1, e2]
              have e3 : ((1 : Int) < u.length) ↔ ((2 : Int) ≤ u.length) := by omega
              have e4 : eo = 2 := of_decide_eq_true hlt.1
              simp [e3, e4]
            generalize (if fitsOf 7 (Sm.mk op sx m (halfLast xe) xb xc g :: r) = true then q.edited s else zeroPg) = q2 at h2
            rw [hfit2] at h2
            rw [hqc] at h1 h2 h4; rw [hrest q2] at h2
            simp only [headOf, List.headD_cons, Sm.cells, List.isEmpty_cons, Bool.not_false] at h4 h5
            simp only [Ex.cells, Ex.half, ← hu] at r3 r4
            have r3' : ∀ h : n < (Ex.rows xe).length, (Ex.rows xe)[n] = [.int .i64 eo, .int .i64 en, .str t, .sl 4 (Ex.rows ex)] := fun h => by
              rw [List.getElem?_eq_getElem h] at r3; exact Option.some.inj r3
            have r4' : ∀ h : n < (Ex.rows (halfLast xe)).length, (Ex.rows (halfLast xe))[n] = [.int .i64 eo, .int .i64 en, .str u, .sl 4 (Ex.rows ex)] := fun h => by
              rw [List.getElem?_eq_getElem h] at r4; exact Option.some.inj r4
            have e1 : IntKind.i64.wrap (n : Int) = (n : Int) := by rw [w64] <;> omega
            have e2 : (n : Int) < (n : Int) + 1 := by omega
            have w1 : IntKind.i64.wrap (2 * (u.length : Int)) = 2 * (u.length : Int) := by rw [w64] <;> omega
            have w2 : IntKind.i64.wrap (2 * (u.length : Int) + 1) = 2 * (u.length : Int) + 1 := by rw [w64] <;> omega
            have l1 : 2 * (u.length : Int) ≤ t.length := by omega
            have l2 : (t.length : Int) ≤ 2 * (u.length : Int) + 1 := by omega
            have l3 : (u.length : Int) ≤ t.length := by omega
            have l4 : u.length ≤ t.length := by omega
            have e3 : ¬ ((n : Int) + 1 = 0) := by omega
            cases hd2 : decide ((2 : Int) ≤ u.length) with
            | true =>
              have l5 : (2 : Int) ≤ u.length := by simpa using hd2
              rw [hd2] at h2
              simp [c_flotsamlaw26_RewriteAgain, hcp, hcpt, hcps, hcpu, hb, knows26a, q0, ga, q1, q3, q5, qu, h1, h2, h4, h5, r1, r2, r3, r4, r3', r4', e1, e2, e3, w1, w2, l1, l2, l3, l4, l5, htu]
            | false =>
              have l5 : ¬ (2 : Int) ≤ u.length := by simpa using hd2
              rw [hd2] at h2
              simp [c_flotsamlaw26_RewriteAgain, hcp, hcpt, hcps, hcpu, hb, knows26a, q0, ga, q1, q3, q5, qu, h1, h2, h4, h5, r1, r2, r3, r4, r3', r4', e1, e2, e3, w1, w2, l1, l2, l3, l4, l5, htu]
        · generalize (if fitsOf 8 (edit 8 (x :: r) 0) = true then q.edited s else zeroPg) = q2 at h2
          rw [hqc] at h1 h2; rw [hrest q2] at h2
          simp [c_flotsamlaw26_RewriteAgain, hcp, hcpt, hcps, hcpu, hb, knows26a, q0, ga, q1, q3, q5, qu, h1, h2]
end Go.AM.Spec
