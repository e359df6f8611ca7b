/-
  Values that nobody writes from now on: the blocks of their lists are given up; a call that only looks.
-/
import Derived.Test.YtbgblfbbeamleaaGreatDoorMg
import Derived.Test.YtbgblfbbeamleaaGreatDoorCallh
set_option linter.unusedVariables false
set_option linter.unusedSimpArgs false
namespace Go.AM

/-- The owners without a block. -/
def Own.drop (ρ : Own) (i : Nat) : Own
  | .blk q => if q = i then none else ρ (.blk q)
  | .cell q j => if q = i then none else ρ (.cell q j)
  | .slot s => ρ (.slot s)
  | .arg j => ρ (.arg j)
  | .fr f => ρ (.fr f)

theorem drop_up {ρ : Own} {i : Nat} : ∀ k p, ρ.drop i k = some p → ρ k = some p := by
  intro k p h
  cases k with
  | blk q =>
    simp only [Own.drop] at h
    split at h
    · cases h
    · exact h
  | cell q j =>
    simp only [Own.drop] at h
    split at h
    · cases h
    · exact h
  | slot s => exact h
  | arg j => exact h
  | fr f => exact h

/-- What freezing leaves: some blocks are gone, with what they owned. -/
structure Frz (ι : Places) (ρ ρ' : Own) (H H' : Heap) : Prop where
  up : ∀ k p, ρ' k = some p → ρ k = some p
  slot : ∀ s, ρ' (.slot s) = ρ (.slot s)
  arg : ∀ s, ρ' (.arg s) = ρ (.arg s)
  fr : ∀ s, ρ' (.fr s) = ρ (.fr s)
  len : H'.length = H.length
  each : ∀ i, (H'[i]? = H[i]? ∧ ρ' (.blk i) = ρ (.blk i) ∧ ∀ j, ρ' (.cell i j) = ρ (.cell i j)) ∨
    (H'[i]? = some none ∧ ρ' (.blk i) = none ∧ (∀ j, ρ' (.cell i j) = none) ∧ (∃ cs, H[i]? = some (some cs)) ∧ ∃ b base, ι[i]? = some (.blk b base))

theorem Frz.refl (ι : Places) (ρ : Own) (H : Heap) : Frz ι ρ ρ H H := ⟨fun _ _ h => h, fun _ => rfl, fun _ => rfl, fun _ => rfl, rfl, fun _ => .inl ⟨rfl, rfl, fun _ => rfl⟩⟩

theorem Frz.trans {ι : Places} {ρ ρ1 ρ2 : Own} {H H1 H2 : Heap} (h : Frz ι ρ ρ1 H H1) (h' : Frz ι ρ1 ρ2 H1 H2) : Frz ι ρ ρ2 H H2 := by
  refine ⟨fun k p hk => h.up k p (h'.up k p hk), fun s => (h'.slot s).trans (h.slot s), fun s => (h'.arg s).trans (h.arg s), fun s => (h'.fr s).trans (h.fr s), h'.len.trans h.len, fun i => ?_⟩
  rcases h'.each i with ⟨a1, a2, a3⟩ | ⟨a1, a2, a3, ⟨cs, a4⟩, a5⟩ <;> rcases h.each i with ⟨b1, b2, b3⟩ | ⟨b1, b2, b3, b4, b5⟩
  · exact .inl ⟨a1.trans b1, a2.trans b2, fun j => (a3 j).trans (b3 j)⟩
  · exact .inr ⟨a1.trans b1, a2.trans b2, fun j => (a3 j).trans (b3 j), b4, b5⟩
  · exact .inr ⟨a1, a2, a3, ⟨cs, by rw [← b1]; exact a4⟩, a5⟩
  · rw [b1] at a4; cases a4

section
variable {P : Program} {E : LblP} {nt : Cx} {φ : Fr} {H : Heap} {ρ : Own} {ι : Places} {a : Act} {w : World} {o : Oper} {call : CallF}

theorem Mem.drop (m : Mem E H ι ρ w) {i b base : Nat} (hp : ι[i]? = some (.blk b base)) : Mem E (H.set i none) ι (ρ.drop i) w := by
  have hne : ∀ {j : Nat} {vs : List V}, (H.set i none)[j]? = some (some vs) → j ≠ i ∧ H[j]? = some (some vs) := by
    intro j vs h
    by_cases hj : j = i
    · subst hj
      rw [List.getElem?_set] at h
      simp only [if_true] at h
      split at h <;> cases h
    · exact ⟨hj, by rwa [List.getElem?_set_ne (by omega)] at h⟩
  have hf : ∀ b o, foot (ρ.drop i) b o → foot ρ b o := foot_sub drop_up
  have hb : ∀ {j : Nat}, j ≠ i → ρ.drop i (.blk j) = ρ (.blk j) := fun hj => by simp only [Own.drop, if_neg hj]
  have hc : ∀ {j : Nat} (q : Nat), j ≠ i → ρ.drop i (.cell j q) = ρ (.cell j q) := fun q hj => by simp only [Own.drop, if_neg hj]
  refine ⟨by simp [m.len], fun j vs h hl => ?_, fun j vs l h hl => ?_, fun j h => ?_, fun j vs q h hq => ?_, m.glo.foot hf, fun N hN => by rw [List.length_set]; exact m.lim N hN⟩
  · obtain ⟨hj, h0⟩ := hne h
    obtain ⟨b, base, c, t, fr, r1, r2, r3, r4, r5, r6⟩ := m.blk j vs h0 hl
    refine ⟨b, base, c, t, fr, r1, by rw [hb hj]; exact r2, r3, r4, r5, fun q v hv => ?_⟩
    obtain ⟨x, q1, q2, q3⟩ := r6 q v hv
    exact ⟨x, q1, by rw [hc q hj]; exact q2.anti hf, q3⟩
  · obtain ⟨hj, h0⟩ := hne h
    exact (m.rcd j vs l h0 hl).mono (fun b o y h1 h2 => ⟨h1, fun h3 => h2 (hf _ _ h3)⟩) (fun _ _ h => h) (fun _ _ h => h) (hb hj) (fun q => hc q hj) (fun _ _ _ _ _ => rfl)
  · by_cases hj : j = i
    · subst hj
      exact ⟨by simp [Own.drop], fun q => by simp [Own.drop]⟩
    · rw [hb hj]
      have := m.dead j (fun vs hv => h vs (by rw [List.getElem?_set_ne (by omega)]; exact hv))
      exact ⟨this.1, fun q => by rw [hc q hj]; exact this.2 q⟩
  · obtain ⟨hj, h0⟩ := hne h
    rw [hc q hj]
    exact m.past j vs q h0 hq

theorem R.anti {F F' : Nat → Nat → Prop} {v : V} {x : Value} (h : AM.R w F ι v x) (hf : ∀ b o, F' b o → F b o) : AM.R w F' ι v x :=
  h.mono (fun b o y h1 h2 => ⟨h1, fun h => h2 (hf _ _ h)⟩) (fun _ _ h => h) (fun _ _ h => h)

theorem PR.anti {F F' : Nat → Nat → Prop} {v : V} {x : Value} (h : PR w F v x) (hf : ∀ b o, F' b o → F b o) : PR w F' v x :=
  h.mono (fun b o y h1 h2 => ⟨h1, fun h => h2 (hf _ _ h)⟩)

/-- What a way of freezing promises. -/
def FrzOK (E : LblP) (ι : Places) (w : World) (f : Heap → V → Option (V × Heap)) (Q : Own → V → Value → Prop) : Prop :=
  ∀ (H : Heap) (ρ : Own) (v : V) (x : Value) (v' : V) (H' : Heap), Mem E H ι ρ w → Sep ρ w → AM.R w (foot ρ) ι v.strip x → f H v = some (v', H') →
    ∃ ρ', Frz ι ρ ρ' H H' ∧ Mem E H' ι ρ' w ∧ Q ρ' v' x

theorem frzL_ok {f : Heap → V → Option (V × Heap)} {Q : Own → V → Value → Prop} (hf : FrzOK E ι w f Q) (hQ : ∀ ρ ρ' : Own, ∀ v x, (∀ b o, foot ρ' b o → foot ρ b o) → Q ρ v x → Q ρ' v x) :
    ∀ (vs : List V) (xs : List Value) (H : Heap) (ρ : Own) (us : List V) (H' : Heap), Mem E H ι ρ w → Sep ρ w → xs.length = vs.length → (∀ (j : Nat) (v : V) (x : Value), vs[j]? = some v → xs[j]? = some x → AM.R w (foot ρ) ι v.strip x) →
      frzL f H vs = some (us, H') → ∃ ρ', Frz ι ρ ρ' H H' ∧ Mem E H' ι ρ' w ∧ us.length = vs.length ∧ ∀ (j : Nat) (u : V) (x : Value), us[j]? = some u → xs[j]? = some x → Q ρ' u x
  | [], xs, H, ρ, us, H', m, s, hl, hr, h => by
    simp only [frzL, Option.some.injEq, Prod.mk.injEq] at h
    obtain ⟨rfl, rfl⟩ := h
    exact ⟨ρ, .refl _ _ _, m, rfl, fun j u x hu => by simp at hu⟩
  | v :: vs, [], H, ρ, us, H', m, s, hl, hr, h => by simp at hl
  | v :: vs, x :: xs, H, ρ, us, H', m, s, hl, hr, h => by
    simp only [frzL] at h
    split at h <;> try cases h
    rename_i u H1 h1
    split at h <;> try cases h
    rename_i _ us1 h2
    obtain ⟨ρ1, z1, m1, q1⟩ := hf H ρ v x u H1 m s (hr 0 v x rfl rfl) h1
    have hF1 := foot_sub z1.up
    obtain ⟨ρ2, z2, m2, q2, q3⟩ := frzL_ok hf hQ vs xs H1 ρ1 us1 H' m1 (s.sub z1.up) (by simpa using hl) (fun j v x hv hx => (hr (j + 1) v x hv hx).anti hF1) h2
    refine ⟨ρ2, z1.trans z2, m2, by simp [q2], fun j u' y hu hy => ?_⟩
    cases j with
    | zero =>
      simp only [List.getElem?_cons_zero, Option.some.injEq] at hu hy
      subst hu; subst hy
      exact hQ _ _ _ _ (foot_sub z2.up) q1
    | succ j => exact q3 j u' y (by simpa using hu) (by simpa using hy)

/-- A value is frozen. -/
theorem frzV_ok : ∀ n, FrzOK E ι w (frzV n) (fun ρ v x => PR w (foot ρ) v x)
  | 0 => fun H ρ v x v' H' m s hr h => by simp [frzV] at h
  | n + 1 => by
    intro H ρ v x v' H' m s hr h
    cases v with
    | mg k i off len cap =>
      simp only [frzV] at h
      split at h <;> try cases h
      rename_i cs hi
      split at h <;> try cases h
      rename_i hle
      split at h <;> try cases h
      rename_i us hz
      have hR : AM.R w (foot ρ) ι (.mg k i off len cap) x := hr
      obtain ⟨b, base, cap', ad, hp, hlc, hcc, had, hnn, _, rfl⟩ := hR.mg_inv
      obtain ⟨hbi, c, t, fr, hrow, hsz, hfz, hcl⟩ := m.at hi hp
      have hF : ∀ b o, foot (ρ.drop i) b o → foot ρ b o := foot_sub drop_up
      have hin : i < H.length := get_some hi
      have z0 : Frz ι ρ (ρ.drop i) H (H.set i none) := by
        refine ⟨drop_up, fun _ => rfl, fun _ => rfl, fun _ => rfl, List.length_set, fun q => ?_⟩
        by_cases hq : q = i
        · subst hq
          exact .inr ⟨List.getElem?_set_self hin, by simp [Own.drop], fun j => by simp [Own.drop], ⟨cs, hi⟩, b, base, hp⟩
        · exact .inl ⟨List.getElem?_set_ne (fun h => hq h.symm), by simp only [Own.drop, if_neg hq], fun j => by simp only [Own.drop, if_neg hq]⟩
      have hvl : ((cs.drop off).take (len * k)).length = len * k := by rw [List.length_take, List.length_drop]; omega
      obtain ⟨ρ2, z2, m2, q2, q3⟩ := frzL_ok (frzV_ok n) (fun ρ ρ' v x h => fun hp => hp.anti h) _ ((List.range (len * k)).map fun j => c.getD (base + off + j) Go.undef) _ _ us H' (m.drop hp) (s.sub drop_up) (by rw [hvl]; simp) (fun j v x hv hx => by
        have hj := get_some hv
        rw [hvl] at hj
        rw [List.getElem?_take_of_lt hj, List.getElem?_drop] at hv
        obtain ⟨y, r1, r2, _⟩ := hcl _ _ hv
        simp only [List.getElem?_map, List.getElem?_range hj, Option.map_some, Option.some.injEq] at hx
        subst hx
        have e2 : c.getD (base + off + j) Go.undef = y := by
          rw [Array.getD_eq_getD_getElem?, show base + off + j = base + (off + j) by omega, r1]; rfl
        rw [e2]
        exact (RL.R r2).anti hF) hz
      have hcn := chunk_length len k us 0
      refine ⟨ρ2, z0.trans z2, m2, ?_⟩
      have hnot : ∀ o, ¬ foot ρ2 b o := by
        rintro o ⟨l, q, hl, _⟩
        have h1 := z2.up _ _ hl
        have := s.one _ _ _ _ _ (drop_up _ _ h1) hbi
        subst this
        simp [Own.drop] at h1
      have key := PR.sl (w := w) (F := foot ρ2) k (chunk k us 0 len) ad cap' b (base + off) (fun p q => c.getD (base + off + p * k + q) Go.undef) (by rw [hcn]; omega) hnn (chunk_width (by rw [q2, hvl]; omega)) (fun hne => had (by
          intro h0
          have : len = 0 := by omega
          subst this
          exact hne rfl)) (fun p q r v hr hv => by
        obtain ⟨g1, g2, g3⟩ := chunk_cell hr hv
        have hlt := get_some g3
        rw [q2, hvl] at hlt
        refine ⟨?_, hnot _⟩
        rw [cell_of_obj hrow, Array.getD_eq_getD_getElem?]
        have hs2 : base + off + p * k + q < c.size := by omega
        simp [hs2]) (fun p q r v hr hv => by
        obtain ⟨g1, g2, g3⟩ := chunk_cell hr hv
        have hlt := get_some g3
        rw [q2, hvl] at hlt
        refine q3 _ v _ g3 ?_
        rw [List.getElem?_map, List.getElem?_range hlt, Option.map_some, Nat.zero_add]
        congr 2; omega)
      rwa [hcn] at key
    | own k r =>
      simp only [frzV, Option.some.injEq, Prod.mk.injEq] at h
      obtain ⟨rfl, rfl⟩ := h
      exact ⟨ρ, .refl _ _ _, m, hr.sl_inv⟩
    | nils k =>
      simp only [frzV, Option.some.injEq, Prod.mk.injEq] at h
      obtain ⟨rfl, rfl⟩ := h
      exact ⟨ρ, .refl _ _ _, m, hr.sl_inv⟩
    | _ =>
      simp only [frzV] at h
      split at h <;> try cases h
      rename_i hpl
      exact ⟨ρ, .refl _ _ _, m, plain_PR hr hpl⟩

theorem frzA_ok : FrzOK E ι w frzA (fun ρ v x => AM.R w (foot ρ) ι v x) := by
  intro H ρ v x v' H' m s hr h
  unfold frzA at h
  split at h
  · rename_i cs
    simp only [Option.map_eq_some_iff, Prod.mk.injEq] at h
    obtain ⟨⟨us, H1⟩, hz, rfl, rfl⟩ := h
    have hr' : AM.R w (foot ρ) ι (.agg cs) x := hr
    obtain ⟨xs, rfl, hl, hR⟩ := hr'.agg_inv
    obtain ⟨ρ2, z2, m2, q2, q3⟩ := frzL_ok (frzV_ok deepest) (fun ρ ρ' v x h => fun hp => hp.anti h) cs xs.toList H ρ us H1 m s (by simpa using hl) (fun j v x hv hx => by
      have hRv := hR j v x hv (by simpa using hx)
      refine hRv.strip (fun k r e => ?_)
      subst e
      cases hRv with
      | pr h => cases h) hz
    exact ⟨ρ2, z2, m2, .agg us xs (by omega) (fun j v x hv hx => .pr (q3 j v x hv (by simpa using hx)))⟩
  · obtain ⟨ρ2, z2, m2, q2⟩ := frzV_ok deepest H ρ v x v' H' m s hr h
    exact ⟨ρ2, z2, m2, .pr q2⟩

/-- The state of a frame behind it. -/
theorem StA.frz {us : List V} {xs : List Value} (s : StA E nt φ H ρ ι a w us xs) {ρ' : Own} {H' : Heap} (z : Frz ι ρ ρ' H H') (m : Mem E H' ι ρ' w) : StA E nt φ H' ρ' ι a w us xs ∧ Goes ρ ι w ρ' ι w := by
  have hF := foot_sub z.up
  refine ⟨⟨s.sz, s.df, fun q => by rw [z.slot]; exact (s.sl q).anti hF, s.al, fun j v x hv hx => by rw [z.arg]; exact (s.ar j v x hv hx).anti hF, fun j hj => by rw [z.arg]; exact s.an j hj, m, s.sep.sub z.up, s.wd⟩, Goes.sub ι w z.up z.fr⟩

theorem tkz_ok (s : StA E nt φ H ρ ι a w [] []) {X : Operand} {x : AX} (hx : chkX X x = true) (ho : o.op = .move X ∨ o.op = .assign X) {u : V} {H' : Heap} (h : frzA H (rd φ x) = some (u, H')) : Runs P o a w (After E nt φ H' u ρ ι a w) := by
  have hR := rd_ok s hx
  obtain ⟨ρ', z, m, q⟩ := frzA_ok H ρ (rd φ x) (a.eval X) u H' s.mem s.sep (by
    refine hR.strip (fun k r e => ?_)
    rw [e] at hR
    cases hR with
    | pr h => cases h) h
  obtain ⟨s', g'⟩ := s.frz z m
  refine .value (a.eval X) (w1 := w) ?_ ⟨ρ', ι, s'.value q, g'⟩
  rcases ho with ho | ho <;> simp [execOp, ho]

/-- Some of a block's cells are frozen. -/
theorem StA.frzAt (s : StA E nt φ H ρ ι a w [] []) {i off n b base : Nat} {cs : List V} (hi : H[i]? = some (some cs)) (hp : ι[i]? = some (.blk b base)) (hn : off + n ≤ cs.length) {us : List V} {K : Heap} (h : frzL (frzV deepest) H ((cs.drop off).take n) = some (us, K)) {cs' : List V} (hK : K[i]? = some (some cs')) :
    ∃ ρ', StA E nt φ (K.set i (some (setMany cs' off us))) ρ' ι a w [] [] ∧ Goes ρ ι w ρ' ι w := by
  obtain ⟨hbi, c, t, fr, hrow, hsz, hfz, hcl⟩ := s.mem.at hi hp
  have hvl : ((cs.drop off).take n).length = n := by rw [List.length_take, List.length_drop]; omega
  obtain ⟨ρ1, z1, m1, q2, q3⟩ := frzL_ok (frzV_ok deepest) (fun ρ ρ' v x h => fun hp => hp.anti h) _ ((List.range n).map fun j => c.getD (base + off + j) Go.undef) H ρ us K s.mem s.sep (by rw [hvl]; simp) (fun j v x hv hx => by
    have hj := get_some hv
    rw [hvl] at hj
    rw [List.getElem?_take_of_lt hj, List.getElem?_drop] at hv
    obtain ⟨y, r1, r2, _⟩ := hcl _ _ hv
    simp only [List.getElem?_map, List.getElem?_range hj, Option.map_some, Option.some.injEq] at hx
    subst hx
    have e2 : c.getD (base + off + j) Go.undef = y := by
      rw [Array.getD_eq_getD_getElem?, show base + off + j = base + (off + j) by omega, r1]; rfl
    rw [e2]
    exact RL.R r2) h
  obtain ⟨s1, g1⟩ := s.frz z1 m1
  have hcs : cs' = cs := by
    rcases z1.each i with ⟨h1, _, _⟩ | ⟨h1, _, _, _, _⟩
    · rw [hK, hi] at h1; simpa using h1
    · rw [hK] at h1; cases h1
  subst hcs
  rw [hvl] at q2
  let ρ2 : Own := fun k => match k with
    | .cell q j => if q = i ∧ off ≤ j ∧ j < off + n then none else ρ1 (.cell q j)
    | k => ρ1 k
  have hup : ∀ k p, ρ2 k = some p → ρ1 k = some p := by
    intro k p hk
    cases k with
    | cell q j =>
      simp only [ρ2] at hk
      split at hk
      · cases hk
      · exact hk
    | _ => exact hk
  have g2 : Goes ρ1 ι w ρ2 ι w := Goes.sub ι w hup (fun _ => rfl)
  have hw : Wrote w w b (base + off) ((List.range n).map fun j => c.getD (base + off + j) Go.undef) := by
    refine ⟨rfl, rfl, rfl, rfl, fun _ _ => rfl, fun _ => rfl, fun c1 t1 fr1 h1 => ?_⟩
    rw [hrow] at h1
    simp only [Option.some.injEq, Obj.cells.injEq] at h1
    obtain ⟨rfl, rfl, rfl⟩ := h1
    refine ⟨c, hrow, rfl, fun o ho => ?_⟩
    split
    · rename_i hh
      simp only [List.length_map, List.length_range] at hh
      rw [List.getElem?_map, List.getElem?_range (by omega), Option.map_some, show base + off + (o - (base + off)) = o by omega, Array.getD_eq_getD_getElem?]
      simp [ho]
    · rfl
  have m2 := s1.mem.write s1.sep (ρ' := ρ2) hK hp hw (us := us) (by simp [q2]) (by omega) g2 (fun _ => rfl) (fun k j hkj => by
      simp only [ρ2]
      rw [if_neg (by omega)]) (fun j v x hv hx => by
      have hj := get_some hv
      have hPR := q3 j v x hv hx
      have e : ρ2 (.cell i (off + j)) = none := by
        simp only [ρ2]
        rw [if_pos (by refine ⟨trivial, ?_, ?_⟩ <;> omega)]
      rw [e]
      exact ⟨R.RL (.pr (hPR.anti (foot_sub hup))), LblP.fit_of (hPR.under _)⟩)
  exact ⟨ρ2, s1.go g2 (fun _ => rfl) (fun _ => rfl) m2 (s1.sep.sub hup), g1.trans g2⟩

/-- A load of what nobody writes from now on. -/
theorem ldf_ok (s : StA E nt φ H ρ ι a w [] []) {X : Operand} {x : AX} (hx : chkX X x = true) {t : TypeId} {agg : Option Nat} (ht : aggIs P t agg = true) (ho : o.op = .load t X) {i off : Nat} (hr : rd φ x = .ptr i off) {cs cs' : List V} (hi : H[i]? = some (some cs)) (hn : off + agg.getD 1 ≤ cs.length)
    {us : List V} {K : Heap} (h : frzL (frzV deepest) H ((cs.drop off).take (agg.getD 1)) = some (us, K)) (hK : K[i]? = some (some cs')) {v : V} (hv : AM.load (K.set i (some (setMany cs' off us))) agg (rd φ x) = some v) :
    Runs P o a w (After E nt φ (K.set i (some (setMany cs' off us))) v ρ ι a w) := by
  obtain ⟨b, base, hp, eX⟩ := (hr ▸ rd_ok s hx).ptr_inv
  obtain ⟨ρ', s', g'⟩ := s.frzAt hi hp hn h hK
  exact (ld_ok s' hx ht ho hv).mono (fun y w1 ⟨ρ2, ι2, s2, g2⟩ => ⟨ρ2, ι2, s2, g'.trans g2⟩)

theorem scalar_R {F F' : Nat → Nat → Prop} {ι ι' : Places} {w w' : World} {v : V} {x : Value} {tl : Option (Nat × Nat)} (h : RL w F ι v x tl) (hv : v.scalar = true) : AM.R w' F' ι' v x := by
  cases v <;> simp only [V.scalar, Bool.false_eq_true] at hv
  · have h0 := ((RL_other (by intro k r h; cases h)).1 h).1
    rw [h0.bool_inv]; exact .pr (.bool _)
  · have h0 := ((RL_other (by intro k r h; cases h)).1 h).1
    cases h0 with
    | pr h => cases h; exact .pr (.int _ _)
  · have h0 := ((RL_other (by intro k r h; cases h)).1 h).1
    rw [h0.str_inv]; exact .pr (.str _)

/-- A call that only looks: what it is given is not written while it runs. -/
theorem callb_ok (hcall : CallOK E P call) (s : StA E nt φ H ρ ι a w [] []) {f : Nat} (hfy : f < yBase) {Xs : Array Operand} {xs : List AX} (hx : chkXs Xs.toList xs = true) {ts : Array TypeId} (ho : o.op = .call { callee := .value (.func f), args := Xs, argTypes := ts })
    {vs : List V} {H1 : Heap} (hz : frzL frzA H (xs.map (rd φ)) = some (vs, H1)) {r : V} (h : callCalm call f vs = some r) (hr : r.scalar = true) : Runs P o a w (After E nt φ H r ρ ι a w) := by
  have hlen := chkXs_length hx
  simp only [Array.length_toList] at hlen
  obtain ⟨ρ1, z, m1, q1, q2⟩ := frzL_ok frzA_ok (fun ρ ρ' v x h => fun hp => hp.anti h) (xs.map (rd φ)) (Xs.map a.eval).toList H ρ vs H1 s.mem s.sep (by simpa using hlen) (fun j v x hv hx' => by
    have hR := args_R s hx j v x hv (by simpa using hx')
    refine hR.strip (fun k r e => ?_)
    subst e
    cases hR with
    | pr h => cases h) hz
  obtain ⟨s1, _⟩ := s.frz z m1
  obtain ⟨H', hu, hcl, _⟩ := callCalm_inv h
  have hc := hcall _ _ _ _ _ hcl (some 0) (fun h => by rw [wideNo_lt hfy] at h; cases h)
  have hC : Calls P f (Xs.map a.eval) w fun e w' => ∃ x, e = .returned x ∧ After E nt φ H r ρ ι a w x w' := by
    refine ((hc.2 w ρ1.frames [] (Xs.map a.eval) ⟨rfl, fun i vs h => by simp at h, fun i vs l h => by simp at h, fun _ _ => ⟨rfl, fun _ => rfl⟩, fun _ _ _ _ _ => rfl, s1.mem.glo.foot (fun b o h => by rwa [frames_foot] at h), fun N hN => by cases hN; exact Nat.le_refl _⟩ (frames_sep s1.sep) (by simp [q1]; omega)
      (fun j v x hv hy => ?_) (fun _ _ => rfl) (fun _ => rfl)).calls hfy).mono ?_
    · rw [frames_foot]; exact ((q2 j v x hv (by simpa using hy)).reindex (underAll_get hu hv) (fun _ _ h => h)).RL
    · rintro e w' ⟨x, ρ', ι', rfl, _, hsep', hR, _, _, g⟩
      have kp : Kp (fun _ _ => False) w w' := g.kp.mono (by
        rintro b o ⟨k, n, hm, hk, _⟩
        obtain ⟨k', rfl, _⟩ := frames_up ρ1 hk
        simp [Key.mine] at hm)
      have g2 : Goes ρ ι w ρ ι w' := .of (kp_false kp) (fun _ _ h => h) (fun l b q hm h => .inr ⟨l, q, hm, h, Nat.le_refl _⟩) (fun _ => rfl) (fun b hb => kp.marks hb (fun _ h => h))
      have s2 : StA E nt φ H ρ ι a w' [] [] := s.go g2 (fun _ => rfl) (fun _ => rfl) (s.mem.kp s.sep kp (fun _ => rfl) (fun _ _ => rfl) g2) ⟨s.sep.one, fun k b n hk => Nat.lt_of_lt_of_le (s.sep.here k b n hk) kp.size⟩
      exact ⟨x, rfl, ρ, ι, s2.value (scalar_R hR hr), g2⟩
  refine .inr (.inr (.inl ⟨f, Xs.map a.eval, w, ?_, hC⟩))
  have := callable_ok (w := w) (hc.1 _ (fnNo_lt hfy)) (Xs.map a.eval)
  simp only [execOp, ho, resolve, Act.eval, Deferred.ofValue, Sem.run_bind, Sem.run_pure, Result.andThen, invoke, Array.empty_append, Array.append_empty]
  exact this

end
end Go.AM
