/-
  What a store into a block and a new block leave of the memory.
-/
import Derived.Test.YtbgblfbbeamleaaGreatDoorOpA
set_option linter.unusedVariables false
set_option linter.unusedSimpArgs false
namespace Go.AM

/-- w' is w with the values xs written into block b from off on. -/
structure Wrote (w w' : World) (b off : Nat) (xs : List Value) : Prop where
  os : w'.os = w.os
  tape : w'.tape = w.tape
  output : w'.output = w.output
  size : w'.heap.size = w.heap.size
  other : ∀ k, k ≠ b → w'.heap[k]? = w.heap[k]?
  same : (∀ c t fr, w.heap[b]? ≠ some (.cells c t fr)) → w'.heap[b]? = w.heap[b]?
  row : ∀ c t fr, w.heap[b]? = some (.cells c t fr) → ∃ c', w'.heap[b]? = some (.cells c' t fr) ∧ c'.size = c.size ∧
    ∀ o, o < c.size → c'[o]? = if off ≤ o ∧ o < off + xs.length then xs[o - off]? else c[o]?

theorem setCell_row {w : World} {b o : Nat} {v : Value} {c : Array Value} {t : TypeId} {fr : Nat × Nat} (h : w.heap[b]? = some (.cells c t fr)) :
    (w.setCell ⟨b, o, none⟩ v).heap[b]? = some (.cells (c.setIfInBounds o v) t fr) := by
  simp only [World.setCell, Array.getElem?_modify, if_true, h]
  simp

theorem run_storeCells {P : Program} {b : Nat} : ∀ (xs : List Value) (off i : Nat) (w : World) (c : Array Value) (t : TypeId) (fr : Nat × Nat), w.heap[b]? = some (.cells c t fr) → off + i + xs.length ≤ c.size →
    (∀ o, off + i ≤ o → o < c.size → w.frozen? ⟨b, o, none⟩ = false) → (∀ x ∈ xs, x.oneCell' = true) → ∃ w', (storeCells ⟨b, off, none⟩ xs i).run P w = .ok () w' ∧ Wrote w w' b (off + i) xs
  | [], off, i, w, c, t, fr, hb, hs, hf, ho => by
    refine ⟨w, by simp [storeCells], rfl, rfl, rfl, rfl, fun _ _ => rfl, fun _ => rfl, fun c t fr h => ⟨c, h, rfl, fun o _ => ?_⟩⟩
    rw [if_neg (by simp only [List.length_nil]; omega)]
  | x :: xs, off, i, w, c, t, fr, hb, hs, hf, ho => by
    simp only [List.length_cons] at hs
    have hx := ho x (by simp)
    have hcell : w.cell? ⟨b, off + i, none⟩ = some c[off + i] := by
      rw [cell_of_obj hb]; simp
    have hfz := hf (off + i) (Nat.le_refl _) (by omega)
    have hb1 := setCell_row (o := off + i) (v := x) hb
    obtain ⟨w', hr, hw⟩ := run_storeCells xs off (i + 1) (w.setCell ⟨b, off + i, none⟩ x) _ t fr hb1 (by simp; omega)
      (fun o h1 h2 => by rw [World.frozen?_setCell]; exact hf o (by omega) (by simpa using h2)) (fun y hy => ho y (by simp [hy]))
    refine ⟨w', ?_, ?_⟩
    · simp only [storeCells, Sem.run_bind, add_eq]
      rw [run_store P w _ x _ hx, hcell]
      simp only [hfz, Bool.false_eq_true, if_false, Result.andThen]
      exact hr
    · refine ⟨hw.os, hw.tape, hw.output, by rw [hw.size]; simp, fun k hk => ?_, fun h1 => absurd hb (h1 _ _ _), fun c1 t1 fr1 h1 => ?_⟩
      · rw [hw.other k hk, Go.RowKit.Below.heap_setCell _ _ _ _ hk]
      · rw [hb] at h1
        simp only [Option.some.injEq, Obj.cells.injEq] at h1
        obtain ⟨rfl, rfl, rfl⟩ := h1
        obtain ⟨c', hc', hs', hg⟩ := hw.row _ _ _ hb1
        refine ⟨c', hc', by simpa using hs', fun o ho1 => ?_⟩
        rw [hg o (by simpa using ho1)]
        simp only [List.length_cons]
        by_cases h2 : off + (i + 1) ≤ o ∧ o < off + (i + 1) + xs.length
        · rw [if_pos h2, if_pos (by omega)]
          rw [show o - (off + i) = (o - (off + (i + 1))) + 1 by omega]
          simp
        · rw [if_neg h2]
          by_cases h3 : o = off + i
          · subst h3
            rw [if_pos (by omega)]
            simp [ho1]
          · rw [if_neg (by omega)]
            rw [Array.getElem?_setIfInBounds, if_neg (by omega)]

theorem Wrote.kp {w w' : World} {b off : Nat} {xs : List Value} (h : Wrote w w' b off xs) {F : Nat → Nat → Prop} (hF : ∀ o, off ≤ o → o < off + xs.length → F b o) : Kp F w w' := by
  refine ⟨h.os, h.tape, h.output, Nat.le_of_eq h.size.symm, fun k hk => ?_⟩
  by_cases hkb : k = b
  · subst hkb
    unfold ObjKp
    split
    · rename_i c t fr hc
      obtain ⟨c', hc', hs, hg⟩ := h.row c t fr hc
      refine ⟨c', fr, hc', hs, fun o ho => ?_, fun _ => rfl⟩
      by_cases h1 : o < c.size
      · rw [hg o h1, if_neg (fun h2 => ho (hF o h2.1 h2.2))]
      · rw [Array.getElem?_eq_none (by omega), Array.getElem?_eq_none (by omega)]
    · rename_i r hr
      exact ⟨r, by rw [h.same (fun c t fr hc => by rw [hr] at hc; cases hc)]; exact hr, fun _ => rfl⟩
    · rename_i es n hr
      exact ⟨es, n, by rw [h.same (fun c t fr hc => by rw [hr] at hc; cases hc)]; exact hr, fun _ => ⟨rfl, rfl⟩⟩
    · rename_i hne _ _
      by_cases hx : ∃ c t fr, w.heap[k]? = some (.cells c t fr)
      · obtain ⟨c, t, fr, hx⟩ := hx; exact absurd hx (hne c t fr)
      · exact h.same (fun c t fr hc => hx ⟨c, t, fr, hc⟩)
  · rw [h.other k hkb]; exact .refl _ _

theorem Wrote.marks {w w' : World} {b off : Nat} {xs : List Value} (h : Wrote w w' b off xs) (k : Nat) : Marks0 k w w' := by
  by_cases hkb : k = b
  · subst hkb
    by_cases hx : ∃ c t fr, w.heap[k]? = some (.cells c t fr)
    · obtain ⟨c, t, fr, hx⟩ := hx
      obtain ⟨c', hc', _, _⟩ := h.row c t fr hx
      exact .of_cells hx hc'
    · exact .of_eq (h.same (fun c t fr hc => hx ⟨c, t, fr, hc⟩))
  · exact .of_eq (h.other k hkb)

theorem setMany_length : ∀ (vs cs : List V) (off : Nat), (setMany cs off vs).length = cs.length
  | [], cs, off => rfl
  | v :: vs, cs, off => by simp [setMany, setMany_length vs]

theorem setMany_get : ∀ (vs cs : List V) (off j : Nat), off + vs.length ≤ cs.length → (setMany cs off vs)[j]? = if off ≤ j ∧ j < off + vs.length then vs[j - off]? else cs[j]?
  | [], cs, off, j, _ => by simp only [setMany]; rw [if_neg (by simp only [List.length_nil]; omega)]
  | v :: vs, cs, off, j, h => by
    simp only [List.length_cons] at h
    simp only [setMany]
    rw [setMany_get vs _ (off + 1) j (by simp; omega)]
    simp only [List.length_cons]
    by_cases h2 : off + 1 ≤ j ∧ j < off + 1 + vs.length
    · rw [if_pos h2, if_pos (by omega), show j - off = (j - (off + 1)) + 1 by omega]; simp
    · rw [if_neg h2]
      by_cases h3 : j = off
      · subst h3; rw [if_pos (by omega), List.getElem?_set_self (by omega)]; simp
      · rw [if_neg (by omega), List.getElem?_set_ne (by omega)]

theorem Mem.at {E : LblP} {H : Heap} {ι : Places} {ρ : Own} {w : World} (m : Mem E H ι ρ w) {i b base : Nat} {vs : List V} (hi : H[i]? = some (some vs)) (hp : ι[i]? = some (.blk b base)) :
    ρ (.blk i) = some (b, base) ∧ ∃ c t fr, w.heap[b]? = some (.cells c t fr) ∧ base + vs.length ≤ c.size ∧ (∀ o, base ≤ o → o < c.size → w.frozen? ⟨b, o, none⟩ = false) ∧
    ∀ (j : Nat) (v : V), vs[j]? = some v → ∃ x, c[base + j]? = some x ∧ RL w (foot ρ) ι v x (ρ (.cell i j)) ∧ E.fit i v := by
  obtain ⟨b', base', c, t, fr, h1, h2, h3, h4, h5, h6⟩ := m.blk i vs hi (not_lp hp)
  rw [hp] at h1
  simp only [Option.some.injEq, Place.blk.injEq] at h1
  obtain ⟨rfl, rfl⟩ := h1
  exact ⟨h2, c, t, fr, h3, h4, h5, h6⟩

/-- A store. -/
theorem Mem.write {E : LblP} {H : Heap} {ι : Places} {ρ ρ' : Own} {w w' : World} (m : Mem E H ι ρ w) (p : Sep ρ w) {i b base off : Nat} {cs us : List V} {xs : List Value} (hi : H[i]? = some (some cs)) (hp : ι[i]? = some (.blk b base))
    (hw : Wrote w w' b (base + off) xs) (hl : xs.length = us.length) (hs : off + us.length ≤ cs.length) (g : Goes ρ ι w ρ' ι w')
    (hb : ∀ k, ρ' (.blk k) = ρ (.blk k)) (hc : ∀ k j, (k ≠ i ∨ j < off ∨ off + us.length ≤ j) → ρ' (.cell k j) = ρ (.cell k j))
    (hn : ∀ (j : Nat) (v : V) (x : Value), us[j]? = some v → xs[j]? = some x → RL w' (foot ρ') ι v x (ρ' (.cell i (off + j))) ∧ E.fit i v) :
    Mem E (H.set i (some (setMany cs off us))) ι ρ' w' := by
  obtain ⟨hbi, c, t, fr, hrow, hsz, hfz, hcells⟩ := m.at hi hp
  obtain ⟨c', hrow', hsz', hget⟩ := hw.row c t fr hrow
  have hilt : i < H.length := by
    rcases Nat.lt_or_ge i H.length with h | h
    · exact h
    · rw [List.getElem?_eq_none h] at hi; cases hi
  refine ⟨by simp [m.len], fun k vs hk hne => ?_, fun k vs l hk hl => ?_, fun k hk => ?_, fun k vs j hk hj => ?_, m.glo.ext g, fun N hN => by rw [List.length_set]; exact m.lim N hN⟩
  · by_cases hki : k = i
    · subst hki
      rw [List.getElem?_set_self hilt] at hk
      simp only [Option.some.injEq] at hk
      subst hk
      refine ⟨b, base, c', t, fr, hp, by rw [hb]; exact hbi, hrow', by rw [setMany_length]; omega, fun o h1 h2 => by rw [hw.marks b]; exact hfz o h1 (by omega), fun j v hj => ?_⟩
      rw [setMany_get _ _ _ _ hs] at hj
      by_cases h1 : off ≤ j ∧ j < off + us.length
      · rw [if_pos h1] at hj
        have hx : j - off < xs.length := by omega
        obtain ⟨r1, r2⟩ := hn (j - off) v xs[j - off] hj (by simp [hx])
        refine ⟨xs[j - off], ?_, ?_, r2⟩
        · rw [hget _ (by omega), if_pos (by omega), show base + j - (base + off) = j - off by omega]; simp [hx]
        · rwa [show off + (j - off) = j by omega] at r1
      · rw [if_neg h1] at hj
        obtain ⟨x, r0, r1, r2⟩ := hcells j v hj
        refine ⟨x, ?_, ?_, r2⟩
        · rw [hget _ (by have : j < cs.length := (by rcases Nat.lt_or_ge j cs.length with h | h; exact h; rw [List.getElem?_eq_none h] at hj; cases hj); omega), if_neg (by omega)]; exact r0
        · rw [hc _ _ (by omega)]; exact r1.ext g (hc _ _ (by omega))
    · rw [List.getElem?_set_ne (by omega)] at hk
      obtain ⟨b1, base1, c1, t1, fr1, h1, h2, h3, h4, h5, h6⟩ := m.blk k vs hk hne
      have hne : b1 ≠ b := by
        rintro rfl
        have := p.one _ _ _ _ _ h2 hbi
        simp at this; exact hki this
      refine ⟨b1, base1, c1, t1, fr1, h1, by rw [hb]; exact h2, by rw [hw.other _ hne]; exact h3, h4, fun o h1 h2 => by rw [hw.marks b1]; exact h5 o h1 h2, fun j v hj => ?_⟩
      obtain ⟨x, r0, r1, r2⟩ := h6 j v hj
      exact ⟨x, r0, by rw [hc _ _ (.inl hki)]; exact r1.ext g (hc _ _ (.inl hki)), r2⟩
  · have hki : k ≠ i := by
      rintro rfl
      exact not_lp hp l hl
    rw [List.getElem?_set_ne (by omega)] at hk
    refine (m.rcd k vs l hk hl).ext g (hb k) (fun j => hc _ _ (.inl hki)) (fun k' b1 n1 hk1 hb1 => hw.other _ ?_)
    rintro rfl
    have := p.one _ _ _ _ _ hb1 hbi
    rcases hk1 with rfl | ⟨j, rfl⟩
    · simp at this; exact hki this
    · cases this
  · have hki : k ≠ i := by
      rintro rfl
      exact hk (setMany cs off us) (by rw [List.getElem?_set_self hilt])
    rw [hb]
    have := m.dead k (fun vs hv => hk vs (by rw [List.getElem?_set_ne (by omega)]; exact hv))
    exact ⟨this.1, fun j => by rw [hc _ _ (.inl hki)]; exact this.2 j⟩
  · by_cases hki : k = i
    · subst hki
      rw [List.getElem?_set_self hilt] at hk
      simp only [Option.some.injEq] at hk
      subst hk
      rw [setMany_length] at hj
      rw [hc _ _ (.inr (.inr (by omega)))]
      exact m.past k cs j hi hj
    · rw [List.getElem?_set_ne (by omega)] at hk
      rw [hc _ _ (.inl hki)]
      exact m.past k vs j hk hj

end Go.AM
