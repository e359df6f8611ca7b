/-
  The parts of this proof that speak of the functions one by one.
-/
import Derived.Test.YtehbmajjoolcnaaGpC
import Derived.Test.YtehbmajjoolcnaaGpB
namespace Go.AM.Spec
set_option linter.unusedVariables false
set_option linter.unusedSimpArgs false
set_option maxHeartbeats 4000000
set_option maxRecDepth 10000
end Go.AM.Spec
namespace Go.AM.Spec
set_option linter.unusedVariables false
set_option linter.unusedSimpArgs false
set_option maxHeartbeats 4000000
set_option maxRecDepth 10000
def NZ (R : Mp) : Prop := ∀ x ∈ R, x.2 ≠ 0
end Go.AM.Spec
namespace Go.AM.Spec
set_option linter.unusedVariables false
set_option linter.unusedSimpArgs false
set_option maxHeartbeats 4000000
set_option maxRecDepth 10000
end Go.AM.Spec
namespace Go.AM.Spec
set_option linter.unusedVariables false
set_option linter.unusedSimpArgs false
set_option maxHeartbeats 4000000
set_option maxRecDepth 10000
theorem NZ.nil : NZ [] := fun x h => by simp at h
end Go.AM.Spec
namespace Go.AM.Spec
set_option linter.unusedVariables false
set_option linter.unusedSimpArgs false
set_option maxHeartbeats 4000000
set_option maxRecDepth 10000
theorem Fault_eq (a b c d : Int) : eval tbl noExt n_l15_Fault [.agg [.int .i64 a, .int .i64 b], .agg [.int .i64 c, .int .i64 d]] [] = some (.bool (decide (a = c) && decide (b = d)), []) := by
  rw [eval_M rfl rfl t_l15_Fault rfl]
  by_cases h1 : a = c
  · by_cases h2 : b = d
    · simp [c_l15_Fault, h1, h2]
    · simp [c_l15_Fault, h1, h2]
  · simp [c_l15_Fault, h1]
theorem Pg.chk_typed (p : Pg) : p.chk = p.typed := by
  unfold Pg.chk Pg.typed
  cases h : p.ok with
  | false => rfl
  | true => simp only [if_true]; exact Pg.chk_rk h
end Go.AM.Spec
namespace Go.AM.Spec
set_option linter.unusedVariables false
set_option linter.unusedSimpArgs false
set_option maxHeartbeats 4000000
set_option maxRecDepth 10000
theorem knows19 : eval tbl noExt n_flotsamlaw19_knows [] [] = some (.bool true, []) := (eval_iff _ _ _ _ _ _).2 ⟨400, by kernel_rfl⟩
end Go.AM.Spec
namespace Go.AM.Spec
set_option linter.unusedVariables false
set_option linter.unusedSimpArgs false
set_option maxHeartbeats 4000000
set_option maxRecDepth 10000
def AtIn (a b : Int) (f : Flt) : Prop := f = (0, 0) ∨ (a ≤ f.2 ∧ f.2 ≤ b)
theorem AtIn.mono {a b a' b' : Int} {f : Flt} (h : AtIn a b f) (h1 : a' ≤ a) (h2 : b ≤ b') : AtIn a' b' f := h.imp id fun h => ⟨by omega, by omega⟩
theorem failF_at {a b : Int} {f : Flt} (h : AtIn a b f) {e at_ : Int} (h1 : a ≤ at_) (h2 : at_ ≤ b) : AtIn a b (failF f e at_) := by
  unfold failF
  split
  · exact .inr ⟨h1, h2⟩
  · exact h
theorem exprsF_at (ρ : Env) (op at_ : Int) : ∀ (l : List Ex) (i : Nat) (last : Int) (f : Flt), AtIn at_ at_ f → AtIn at_ at_ (exprsF ρ op at_ i l last f).2
  | [], _, _, _, h => h
  | e :: l, i, last, f, h => by
    unfold exprsF
    refine exprsF_at ρ op at_ l (i + 1) _ _ ?_
    split
    · exact failF_at h (Int.le_refl _) (Int.le_refl _)
    split
    · exact h
    · exact failF_at h (Int.le_refl _) (Int.le_refl _)
mutual
theorem Sm.rk_at (pr : Nm → Bool) : ∀ (x : Sm) (ρ : Env) (no : Int), AtIn no (no + x.flat.length) (x.rk pr ρ no).2
  | .mk op s n e b c g, ρ, no => by
    have h1 := exprsF_at ρ op no e 0 0 (0, 0) (.inl rfl)
    have h2 := Sm.rks_at pr b ρ (no + 1)
    have h3 := Sm.rks_at pr c ρ (no + 1 + (Sm.flats b).length)
    have hl : ((Sm.mk op s n e b c g).flat.length : Int) = 1 + (Sm.flats b).length + (Sm.flats c).length := by simp only [Sm.flat, List.length_cons, List.length_append]; omega
    rw [hl]
    unfold Sm.rk
    split
    · exact h1.mono (by omega) (by omega)
    split
    · split
      · exact .inr ⟨by simp, by simp only; omega⟩
      · exact .inl rfl
    split
    · exact .inr ⟨by simp, by simp only; omega⟩
    split
    · exact h2.mono (by omega) (by omega)
    · exact h3.mono (by omega) (by omega)
theorem Sm.rks_at (pr : Nm → Bool) : ∀ (l : List Sm) (ρ : Env) (no : Int), AtIn no (no + (Sm.flats l).length) (Sm.rks pr ρ l no)
  | [], _, _ => .inl rfl
  | x :: l, ρ, no => by
    have h1 := Sm.rk_at pr x ρ no
    have h2 := Sm.rks_at pr l (x.rk pr ρ no).1 (no + x.flat.length)
    have hl : ((Sm.flats (x :: l)).length : Int) = x.flat.length + (Sm.flats l).length := by simp only [Sm.flats, List.length_append]; omega
    rw [hl, Sm.rks]
    split
    · exact h1.mono (by omega) (by omega)
    · exact h2.mono (by omega) (by omega)
end
theorem oraclesR_at : ∀ (l : List (Nm × Ex)) (seen : List Nm) (no : Int), AtIn no (no + l.length) (oraclesR l seen no)
  | [], _, _ => .inl rfl
  | x :: l, seen, no => by
    have h := oraclesR_at l (seen ++ [x.1]) (no + 1)
    simp only [List.length_cons]
    unfold oraclesR
    split
    · exact .inr ⟨by simp, by simp only; omega⟩
    split
    · exact .inr ⟨by simp, by simp only; omega⟩
    split
    · exact .inr ⟨by simp, by simp only; omega⟩
    · exact h.mono (by omega) (by omega)
theorem restR_at (names : List Nm) (p : Pg) (no : Int) : AtIn no (no + (Sm.flats p.main).length + (Sm.flats p.recover).length + p.oracles.length) (restR names p no) := by
  have h1 := Sm.rks_at (hasN names) p.main env0 no
  have h2 := Sm.rks_at (hasN names) p.recover env0 (no + (Sm.flats p.main).length)
  have h3 := oraclesR_at p.oracles [] (no + (Sm.flats p.main).length + (Sm.flats p.recover).length)
  unfold restR
  split
  · exact h1.mono (by omega) (by omega)
  split
  · exact h2.mono (by omega) (by omega)
  · exact h3.mono (by omega) (by omega)
def ClOK (l : List Sm) : Prop := eval tbl noExt n_flotsamlaw19_calls [.sl 7 (Sm.rows l)] [] = some (.bool (Sm.callsL l), [])
theorem calls_loop (L : List Sm) (hl : L.length ≤ 100000) (hb : ∀ x ∈ L, ∀ b ∈ x.blocks, ClOK b) (k : List Item) (X : Option (V × Heap))
    (hret : ∀ φ', Sm.callsL L = true → Fr.get φ' 2 = .bool true → retK k φ' [] = X) (hexit : ∀ φ', Sm.callsL L = false → M (eval tbl noExt) k φ' [] = X) :
    ∀ (l : List Sm) (i : Nat) (φ : Fr), L.drop i = l → Sm.callsL L = Sm.callsL l → Fr.get φ 0 = .sl 7 (Sm.rows L) → Fr.get φ 3 = .int .i64 i →
      M (eval tbl noExt) (.code l_flotsamlaw19_calls_0 :: .blk 0 :: k) φ [] = X := by
  have hrl : (Sm.rows L).length = L.length := by rw [Sm.rows_eq]; simp
  intro l
  induction l with
  | nil =>
    intro i φ hd e1 h0 h3
    have hi : L.length ≤ i := by rw [← Nat.sub_eq_zero_iff_le, ← List.length_drop, hd]; rfl
    have hlt : ¬ ((i : Int) < L.length) := by omega
    rw [l_flotsamlaw19_calls_0, M_loop, ← l_flotsamlaw19_calls_0]
    simp [b_flotsamlaw19_calls_0, h0, h3, hrl, hlt]
    exact hexit _ e1
  | cons x l ih =>
    intro i φ hd e1 h0 h3
    have hi : i < L.length := by
      have : (L.drop i).length = l.length + 1 := by rw [hd]; rfl
      rw [List.length_drop] at this; omega
    have hlt : (i : Int) < L.length := by omega
    have hLx : L[i]? = some x := by rw [← List.head?_drop, hd]; rfl
    have hmem : x ∈ L := List.mem_of_getElem? hLx
    have hd1 : L.drop (i + 1) = l := by rw [← List.tail_drop, hd]; rfl
    have hr : (Sm.rows L)[i]? = some x.cells := by rw [Sm.rows_eq, List.getElem?_map, hLx]; rfl
    have hr2 : ∀ h, (Sm.rows L)[i]'h = x.cells := fun h => by rw [List.getElem?_eq_getElem h] at hr; exact Option.some.inj hr
    have hw : IntKind.i64.wrap ((i : Int) + 1) = ((i + 1 : Nat) : Int) := by rw [w64 (by omega) (by omega)]; rfl
    have hbx := hb x hmem
    obtain ⟨op, s, n, e, b, c, g⟩ := x
    have hbb := hbx b (by simp [Sm.blocks])
    have hbc := hbx c (by simp [Sm.blocks])
    unfold ClOK at hbb hbc
    simp only [Sm.cells] at hr hr2
    rw [Sm.callsL, Sm.calls] at e1
    rw [l_flotsamlaw19_calls_0, M_loop, ← l_flotsamlaw19_calls_0]
    by_cases h15 : op = 15
    · subst h15
      rw [decide_eq_true rfl, Bool.true_or, Bool.true_or] at e1
      simp [b_flotsamlaw19_calls_0, h0, h3, hrl, hlt, hi, hr, hr2]
      exact hret _ e1 (by simp)
    · rw [decide_eq_false h15, Bool.false_or] at e1
      cases hB : Sm.callsL b with
      | true =>
        rw [hB] at hbb e1
        rw [Bool.true_or, Bool.true_or] at e1
        simp [b_flotsamlaw19_calls_0, h0, h3, hrl, hlt, hi, hr, hr2, h15, hbb]
        exact hret _ e1 (by simp)
      | false =>
        rw [hB] at hbb e1
        rw [Bool.false_or] at e1
        cases hC : Sm.callsL c with
        | true =>
          rw [hC] at hbc e1
          rw [Bool.true_or] at e1
          simp [b_flotsamlaw19_calls_0, h0, h3, hrl, hlt, hi, hr, hr2, h15, hbb, hbc]
          exact hret _ e1 (by simp)
        | false =>
          rw [hC] at hbc e1
          rw [Bool.false_or] at e1
          simp [b_flotsamlaw19_calls_0, h0, h3, hrl, hlt, hi, hr, hr2, h15, hbb, hbc, hw]
          refine ih (i + 1) _ hd1 e1 ?_ ?_
          · simp [h0]
          · simp
theorem calls_eq : ∀ (n : Nat) (l : List Sm), Sm.sizes l ≤ n → n ≤ 100000 → ClOK l := by
  intro n
  induction n with
  | zero =>
    intro l hn _
    cases l with
    | nil =>
      unfold ClOK
      rw [eval_M rfl rfl t_flotsamlaw19_calls rfl]
      simp [c_flotsamlaw19_calls, Sm.rows]
      refine calls_loop [] (by simp) (by simp) _ _ ?_ ?_ [] 0 _ rfl rfl ?_ ?_
      · intro φ' h; simp [Sm.callsL] at h
      · intro φ' h; simp [r_flotsamlaw19_calls_0, Sm.callsL]
      all_goals simp [Sm.rows]
    | cons x l => cases x; simp only [Sm.sizes, Sm.size] at hn; omega
  | succ n ih =>
    intro l hn hn2
    have hll := Sm.sizes_ge l
    unfold ClOK
    rw [eval_M rfl rfl t_flotsamlaw19_calls rfl]
    simp [c_flotsamlaw19_calls]
    refine calls_loop l (by omega) (fun x hx b hb => ?_) _ _ ?_ ?_ l 0 _ rfl rfl ?_ ?_
    · have hxs := Sm.sizes_mem hx
      obtain ⟨op, s, m, e, b1, b2, g⟩ := x
      simp only [Sm.size] at hxs
      simp only [Sm.blocks, List.mem_cons, List.not_mem_nil, or_false] at hb
      rcases hb with rfl | rfl
      · exact ih _ (by omega) (by omega)
      · exact ih _ (by omega) (by omega)
    · intro φ' h h2; simp [h, h2]
    · intro φ' h; simp [r_flotsamlaw19_calls_0, h]
    all_goals simp
end Go.AM.Spec
namespace Go.AM.Spec
set_option linter.unusedVariables false
set_option linter.unusedSimpArgs false
set_option maxHeartbeats 4000000
set_option maxRecDepth 10000
theorem Sm.cells_plain (x : Sm) : x.cells.all V.plain = true := by cases x; simp [Sm.cells]
theorem Sm.rows_plain (l : List Sm) : ((Sm.rows l).all fun r => r.all V.plain) = true := by
  rw [Sm.rows_eq, List.all_map, List.all_eq_true]
  intro x _
  exact Sm.cells_plain x
theorem bars_rows (i : Nat) : Sm.rows (bars i) ++ [barrier.cells] = Sm.rows (bars (i + 1)) := by
  rw [Sm.rows_eq, Sm.rows_eq, bars, bars, List.replicate_succ', List.map_append]; rfl
theorem bars_sizes (i : Nat) : Sm.sizes (bars i) = i := by
  induction i with
  | zero => rfl
  | succ i ih =>
    show Sm.sizes (barrier :: bars i) = _
    simp only [Sm.sizes, ih]
    simp [barrier, Sm.size, Ex.sizes, Sm.sizes]; omega
theorem bars_txts (i : Nat) : Sm.txts (bars i) := by
  induction i with
  | zero => trivial
  | succ i ih =>
    show Sm.txts (barrier :: bars i)
    exact ⟨by simp [barrier, Sm.txt, Ex.txts, Sm.txts], ih⟩
theorem moves_loop (p : Pg) (n : Nat) (hn : n ≤ 20) (f1 f2 : Int) (k : List Item) (X : Option (V × Heap))
    (hexit : ∀ φ', Fr.get φ' 1 = .int .i64 n → Fr.get φ' 2 = .ptr 0 0 → Fr.get φ' 5 = .ptr 1 0 → Fr.get φ' 6 = .ptr 2 0 →
      M (eval tbl noExt) k φ' [some p.cells, some [.int .i64 f1, .int .i64 f2], some [.sl 2 p.pcells, .own 7 (Sm.rows (bars n)), .sl 7 (Sm.rows p.recover), .sl 5 p.ocells]] = X) :
    ∀ (j i : Nat) (φ : Fr), i + j = n → Fr.get φ 1 = .int .i64 n → Fr.get φ 2 = .ptr 0 0 → Fr.get φ 5 = .ptr 1 0 → Fr.get φ 6 = .ptr 2 0 → Fr.get φ 7 = .int .i64 i →
      M (eval tbl noExt) (.code l_flotsamlaw19_TypesMoves_0 :: .blk 0 :: k) φ [some p.cells, some [.int .i64 f1, .int .i64 f2], some [.sl 2 p.pcells, .own 7 (Sm.rows (bars i)), .sl 7 (Sm.rows p.recover), .sl 5 p.ocells]] = X := by
  intro j
  induction j with
  | zero =>
    intro i φ hij h1 h2 h5 h6 h7
    have hlt : ¬ ((i : Int) < n) := by omega
    obtain rfl : i = n := by omega
    rw [l_flotsamlaw19_TypesMoves_0, M_loop, ← l_flotsamlaw19_TypesMoves_0]
    simp [b_flotsamlaw19_TypesMoves_0, h1, h2, h5, h6, h7, hlt]
    refine hexit _ ?_ ?_ ?_ ?_
    · simp [h1]
    · simp [h2]
    · simp [h5]
    · simp [h6]
  | succ j ih =>
    intro i φ hij h1 h2 h5 h6 h7
    have hlt : ((i : Int) < n) := by omega
    have hrl : (Sm.rows (bars i)).length = i := by rw [Sm.rows_eq]; simp [bars]
    have hw : IntKind.i64.wrap ((i : Int) + 1) = ((i + 1 : Nat) : Int) := by rw [w64 (by omega) (by omega)]; rfl
    have hpl := Sm.rows_plain (bars i)
    have hbr := bars_rows i
    have hcap : 2 * (i + 1) * 112 ≤ 281474976710656 := by omega
    have hbc : barrier.cells = [.int .i64 11, .str [], .int .i64 0, .sl 4 [], .sl 7 [], .sl 7 [], .bool false] := by simp [barrier, Sm.cells, Ex.rows, Sm.rows]
    rw [hbc] at hbr
    rw [l_flotsamlaw19_TypesMoves_0, M_loop, ← l_flotsamlaw19_TypesMoves_0]
    simp [b_flotsamlaw19_TypesMoves_0, h1, h2, h5, h6, h7, hlt, hrl, hw, hpl, hbr, hcap, -List.all_eq_true]
    refine ih (i + 1) _ (by omega) ?_ ?_ ?_ ?_ ?_
    · simp [h1]
    · simp [h2]
    · simp [h5]
    · simp [h6]
    · simp
theorem oks_append (a b : List Sm) (d : Nat) : Sm.oks (a ++ b) d = (Sm.oks a d && Sm.oks b d) := by
  rw [Sm.oks_all, Sm.oks_all, Sm.oks_all, List.all_append]
theorem TypesMoves_eq (p : Pg) (hfit : p.fit) (n : Int) (_ : (Lit.int .i64 n).wf = true) : eval tbl noExt n_flotsamlaw19_TypesMoves [.agg p.cells, .int .i64 n] [] = some (.bool true, []) := by
  obtain ⟨b, hb, hs⟩ := Small_eq p
  have hpl := p.pcells_len
  rw [eval_M rfl rfl t_flotsamlaw19_TypesMoves rfl]
  cases b with
  | false =>
    simp only [Pg.cells] at hb ⊢
    simp [c_flotsamlaw19_TypesMoves, hb, knows19]
  | true =>
    obtain ⟨hsz, htx⟩ := hs rfl
    by_cases c1 : n < 0
    · simp only [Pg.cells] at hb ⊢
      simp [c_flotsamlaw19_TypesMoves, hb, knows19, c1]
    by_cases c2 : 20 < n
    · simp only [Pg.cells] at hb ⊢
      simp [c_flotsamlaw19_TypesMoves, hb, knows19, c1, c2]
    by_cases c3 : 0 < p.procs.length
    · have c3' : (0 : Int) < p.procs.length := by omega
      simp only [Pg.cells] at hb ⊢
      simp [c_flotsamlaw19_TypesMoves, hb, knows19, c1, c2, hpl, c3, c3']
    have hpr : p.procs = [] := List.length_eq_zero_iff.1 (by omega)
    obtain ⟨m, rfl⟩ : ∃ m : Nat, n = m := ⟨n.toNat, by omega⟩
    have hm : m ≤ 20 := by omega
    have hpc : p.pcells = [] := by simp [Pg.pcells, hpr]
    let q : Pg := { p with main := bars m ++ p.main }
    let r : Pg := { p with procs := [([122, 122], bars m)] }
    have hF : p.Fine := ⟨by omega, htx⟩
    have hps : p.psize = 0 := by simp [Pg.psize, hpr]
    have hFq : q.Fine := ⟨by
      have : q.size = p.psize + Sm.sizes (bars m ++ p.main) + Sm.sizes p.recover + p.osize := rfl
      rw [this, sizes_append, bars_sizes]
      simp only [Pg.size] at hsz; omega, htx.1, Sm.txts_append.2 ⟨bars_txts m, htx.2.1⟩, htx.2.2⟩
    have hFr : r.Fine := ⟨by
      have : r.size = (1 + Sm.sizes (bars m)) + 0 + Sm.sizes p.main + Sm.sizes p.recover + p.osize := by simp [r, Pg.size, Pg.psize, Pg.osize]
      rw [this, bars_sizes]
      simp only [Pg.size] at hsz; omega, ⟨fun x hx => by
        simp [r] at hx; subst hx; exact ⟨by simp, bars_txts m⟩, htx.2⟩⟩
    obtain ⟨Hp, hCp⟩ := Check_eq p hF
    obtain ⟨Hq, hCq⟩ := Check_eq q hFq
    obtain ⟨Hr, hCr⟩ := Check_eq r hFr
    rw [Pg.chk_typed] at hCp hCq hCr
    have hqc : q.cells = [.sl 2 [], .sl 7 (Sm.rows (bars m) ++ Sm.rows p.main), .sl 7 (Sm.rows p.recover), .sl 5 p.ocells] := by
      show [V.sl 2 p.pcells, V.sl 7 (Sm.rows (bars m ++ p.main)), V.sl 7 (Sm.rows p.recover), V.sl 5 p.ocells] = _
      rw [hpc, Sm.rows_append]
    have hrc : r.cells = [.sl 2 [[.str [122, 122], .sl 7 (Sm.rows (bars m))]], .sl 7 (Sm.rows p.main), .sl 7 (Sm.rows p.recover), .sl 5 p.ocells] := by simp [r, Pg.cells, Pg.pcells, Pg.ocells]
    have hFt := Fault_eq q.typed.1 q.typed.2 r.typed.1 r.typed.2
    have hcm := calls_eq 1000 p.main (by simp only [Pg.size] at hsz; omega) (by omega)
    have hcr := calls_eq 1000 p.recover (by simp only [Pg.size] at hsz; omega) (by omega)
    unfold ClOK at hcm hcr
    have hq8 : q.typed.1 ≠ 8 → p.ok = true ∧ q.typed = shiftF m p.typed := fun h => by
      have hqok : q.ok = true := by
        cases hh : q.ok with
        | true => rfl
        | false => exact absurd ((typed_form q).2 hh) h
      have hpok : p.ok = true := by
        simp only [Pg.ok, Bool.and_eq_true, decide_eq_true_eq] at hqok ⊢
        obtain ⟨a1, a2, a3, a4, a5, a6, a7⟩ := hqok
        have a6' : Sm.oks (bars m ++ p.main) 1 = true := a6
        rw [oks_append, Bool.and_eq_true] at a6'
        refine ⟨a1, a2, ?_, a4, a5, a6'.2, a7⟩
        have e1 : q.flats.length = m + p.flats.length := by
          simp [Pg.flats, Pg.parts, q, hpr, Sm.flats_append, bars_flats]
        omega
      refine ⟨hpok, ?_⟩
      have hmv := moves_main hpr m
      unfold Pg.typed
      rw [hqok, hpok, if_pos rfl, if_pos rfl]
      exact hmv
    have hr8 : p.ok = true → r.typed.1 ≠ 8 → Sm.callsL p.main = false → Sm.callsL p.recover = false → r.typed = shiftF m p.typed := fun hpok h h1 h2 => by
      have hrok : r.ok = true := by
        cases hh : r.ok with
        | true => rfl
        | false => exact absurd ((typed_form r).2 hh) h
      have hmv := moves_proc hpr m [122, 122] h1 h2
      unfold Pg.typed
      rw [hrok, hpok, if_pos rfl, if_pos rfl]
      exact hmv
    have hat : p.ok = true → AtIn 0 2000 p.typed := fun hpok => by
      have e : p.typed = restR [] p 0 := by
        unfold Pg.typed
        rw [hpok, if_pos rfl, rkF_rest, hpr]; rfl
      rw [e]
      have := restR_at [] p 0
      have h1 := Sm.flats_sizes p.main
      have h2 := Sm.flats_sizes p.recover
      have holl : ∀ l : List (Nm × Ex), l.length ≤ osz l := by
        intro l
        induction l with
        | nil => simp [osz]
        | cons y l ih => simp only [osz, List.map_cons, List.sum_cons, List.length_cons] at ih ⊢; omega
      have h3 := holl p.oracles
      have h4 : osz p.oracles = p.osize := rfl
      simp only [Pg.size] at hsz
      exact this.mono (by omega) (by omega)
    rw [hqc] at hCq
    rw [hrc] at hCr
    clear_value q r
    have hfok : p.typed.1 = 0 → p.typed = (0, 0) := fun h => by
      by_cases hpok : p.ok = true
      · have : p.typed = p.rkF := by unfold Pg.typed; rw [hpok, if_pos rfl]
        rw [this] at h ⊢
        exact (rkF_num p).2.resolve_right (by simp [h])
      · have : p.typed = (8, 0) := by unfold Pg.typed; rw [if_neg hpok]
        rw [this] at h; simp at h
    have hloop := fun k X hexit φ h1 h2 h5 h6 h7 => moves_loop p m hm p.typed.1 p.typed.2 k X hexit m 0 φ (by omega) h1 h2 h5 h6 h7
    clear hqc hrc hFq hFr hF
    generalize q.typed = g at hCq hFt hq8
    generalize r.typed = h at hCr hFt hr8
    generalize p.typed = f at hCp hloop hq8 hr8 hat hfok
    obtain ⟨f1, f2⟩ := f
    obtain ⟨g1, g2⟩ := g
    obtain ⟨h1', h2'⟩ := h
    have hbl : (Sm.rows (bars m)).length = m := by rw [Sm.rows_eq]; simp [bars]
    have hml : (Sm.rows p.main).length = p.main.length := by rw [Sm.rows_eq]; simp
    have hmge := Sm.sizes_ge p.main
    have hcap : 2 * (m + p.main.length) * 112 ≤ 281474976710656 := by simp only [Pg.size] at hsz; omega
    have hmp := Sm.rows_plain p.main
    have hmi : (m : Int) ≤ (m : Int) + p.main.length := by omega
    have htk : List.take m (Sm.rows (bars m) ++ Sm.rows p.main) = Sm.rows (bars m) := by rw [List.take_append_of_le_length (by omega), List.take_of_length_le (by omega)]
    simp only at hq8 hr8 hat hfok hFt hCp hCq hCr
    simp only [Pg.cells, hpc] at hb hCp hloop ⊢
    simp [c_flotsamlaw19_TypesMoves, hb, knows19, c1, c2, hCp]
    refine hloop _ _ ?_ _ ?_ ?_ ?_ ?_ ?_
    · intro φ' h1 h2 h5 h6
      by_cases e8 : g1 = 8
      · simp [r_flotsamlaw19_TypesMoves_0, h1, h2, h5, h6, hbl, hml, hcap, hmp, hCq, e8, -List.all_eq_true]
      obtain ⟨hpok, hg⟩ := hq8 e8
      have hat := hat hpok
      by_cases hf0 : f1 = 0
      · obtain ⟨rfl, rfl⟩ : f1 = 0 ∧ f2 = 0 := by have := hfok hf0; simpa using this
        obtain ⟨rfl, rfl⟩ : g1 = 0 ∧ g2 = 0 := by rw [shiftF_zero] at hg; simpa using hg
        by_cases e9 : h1' = 8
        · simp [r_flotsamlaw19_TypesMoves_0, h1, h2, h5, h6, hbl, hml, hcap, hmp, hCq, hCr, e9, hmi, htk, -List.all_eq_true]
        cases hca : Sm.callsL p.main with
        | true =>
          rw [hca] at hcm
          by_cases hfa : (decide ((0 : Int) = h1') && decide ((0 : Int) = h2')) = true
          · rw [hfa] at hFt
            simp [r_flotsamlaw19_TypesMoves_0, h1, h2, h5, h6, hbl, hml, hcap, hmp, hCq, hCr, e9, hmi, htk, hFt, -List.all_eq_true]
          · rw [Bool.not_eq_true] at hfa
            rw [hfa] at hFt
            simp [r_flotsamlaw19_TypesMoves_0, h1, h2, h5, h6, hbl, hml, hcap, hmp, hCq, hCr, e9, hmi, htk, hFt, hcm, -List.all_eq_true]
        | false =>
          rw [hca] at hcm
          cases hcb : Sm.callsL p.recover with
          | true =>
            rw [hcb] at hcr
            by_cases hfa : (decide ((0 : Int) = h1') && decide ((0 : Int) = h2')) = true
            · rw [hfa] at hFt
              simp [r_flotsamlaw19_TypesMoves_0, h1, h2, h5, h6, hbl, hml, hcap, hmp, hCq, hCr, e9, hmi, htk, hFt, -List.all_eq_true]
            · rw [Bool.not_eq_true] at hfa
              rw [hfa] at hFt
              simp [r_flotsamlaw19_TypesMoves_0, h1, h2, h5, h6, hbl, hml, hcap, hmp, hCq, hCr, e9, hmi, htk, hFt, hcm, hcr, -List.all_eq_true]
          | false =>
            have hh := hr8 hpok e9 hca hcb
            rw [shiftF_zero] at hh
            obtain ⟨rfl, rfl⟩ : h1' = 0 ∧ h2' = 0 := by simpa using hh
            simp at hFt
            simp [r_flotsamlaw19_TypesMoves_0, h1, h2, h5, h6, hbl, hml, hcap, hmp, hCq, hCr, hmi, htk, hFt, -List.all_eq_true]
      · have hat := hat.resolve_left (fun e => hf0 (by have := congrArg Prod.fst e; exact this))
        simp only at hat
        rw [shiftF_ne hf0] at hg
        simp only at hg
        obtain ⟨rfl, rfl⟩ : g1 = f1 ∧ g2 = f2 + m := by simpa using hg
        have hw : IntKind.i64.wrap (f2 + m) = f2 + m := by rw [w64 (by omega) (by omega)]
        by_cases e9 : h1' = 8
        · simp [r_flotsamlaw19_TypesMoves_0, h1, h2, h5, h6, hbl, hml, hcap, hmp, hCq, hCr, e8, hf0, hw, e9, hmi, htk, -List.all_eq_true]
        cases hca : Sm.callsL p.main with
        | true =>
          rw [hca] at hcm
          by_cases hfa : (decide (g1 = h1') && decide (f2 + m = h2')) = true
          · rw [hfa] at hFt
            simp [r_flotsamlaw19_TypesMoves_0, h1, h2, h5, h6, hbl, hml, hcap, hmp, hCq, hCr, e8, hf0, hw, e9, hmi, htk, hFt, -List.all_eq_true]
          · rw [Bool.not_eq_true] at hfa
            rw [hfa] at hFt
            simp [r_flotsamlaw19_TypesMoves_0, h1, h2, h5, h6, hbl, hml, hcap, hmp, hCq, hCr, e8, hf0, hw, e9, hmi, htk, hFt, hcm, -List.all_eq_true]
        | false =>
          rw [hca] at hcm
          cases hcb : Sm.callsL p.recover with
          | true =>
            rw [hcb] at hcr
            by_cases hfa : (decide (g1 = h1') && decide (f2 + m = h2')) = true
            · rw [hfa] at hFt
              simp [r_flotsamlaw19_TypesMoves_0, h1, h2, h5, h6, hbl, hml, hcap, hmp, hCq, hCr, e8, hf0, hw, e9, hmi, htk, hFt, -List.all_eq_true]
            · rw [Bool.not_eq_true] at hfa
              rw [hfa] at hFt
              simp [r_flotsamlaw19_TypesMoves_0, h1, h2, h5, h6, hbl, hml, hcap, hmp, hCq, hCr, e8, hf0, hw, e9, hmi, htk, hFt, hcm, hcr, -List.all_eq_true]
          | false =>
            have hh := hr8 hpok e9 hca hcb
            rw [shiftF_ne hf0] at hh
            obtain ⟨rfl, rfl⟩ : h1' = g1 ∧ h2' = f2 + m := by simpa using hh
            simp at hFt
            simp [r_flotsamlaw19_TypesMoves_0, h1, h2, h5, h6, hbl, hml, hcap, hmp, hCq, hCr, e8, hf0, hw, hmi, htk, hFt, -List.all_eq_true]
    all_goals simp [Sm.rows, bars]
end Go.AM.Spec
