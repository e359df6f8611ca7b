/-
  Literals, make, and the conversions between strings and bytes.
-/
import Derived.Test.YtbgblfbbeamleaaGreatDoorOpS
import Derived.Laws.BytesString
import Derived.Great.BuildSlice
set_option linter.unusedVariables false
set_option linter.unusedSimpArgs false
namespace Go.AM

theorem foldSet (off : Nat) : ∀ (xs : List Value) (k : Nat) (cells : Array Value), off + k + xs.length ≤ cells.size →
    ((xs.zipIdx k).foldl (fun cs (p : Value × Nat) => cs.setIfInBounds (off + p.2) p.1) cells).size = cells.size ∧
    ∀ i, ((xs.zipIdx k).foldl (fun cs (p : Value × Nat) => cs.setIfInBounds (off + p.2) p.1) cells)[i]? = if off + k ≤ i ∧ i < off + k + xs.length then xs[i - (off + k)]? else cells[i]?
  | [], k, cells, h => ⟨rfl, fun i => by rw [if_neg (by simp only [List.length_nil]; omega)]; rfl⟩
  | x :: xs, k, cells, h => by
    simp only [List.length_cons] at h
    obtain ⟨h1, h2⟩ := foldSet off xs (k + 1) (cells.setIfInBounds (off + k) x) (by simp; omega)
    simp only [List.zipIdx_cons, List.foldl_cons]
    refine ⟨by rw [h1]; simp, fun i => ?_⟩
    rw [h2]
    simp only [List.length_cons]
    by_cases h3 : off + (k + 1) ≤ i ∧ i < off + (k + 1) + xs.length
    · rw [if_pos h3, if_pos (by omega), show i - (off + k) = (i - (off + (k + 1))) + 1 by omega]; simp
    · rw [if_neg h3]
      by_cases h4 : i = off + k
      · subst h4
        rw [if_pos (by omega), Nat.sub_self, Array.getElem?_setIfInBounds, if_pos rfl, if_pos (by omega)]
        rfl
      · rw [if_neg (by omega), Array.getElem?_setIfInBounds, if_neg (by omega)]

theorem range0 : Array.range 0 = #[] := by
  apply Array.ext <;> simp

theorem foldSetA (off : Nat) (xs cells : Array Value) (h : off + xs.size ≤ cells.size) :
    (xs.zipIdx.foldl (fun cs (p : Value × Nat) => cs.setIfInBounds (off + p.2) p.1) cells).size = cells.size ∧
    ∀ i, (xs.zipIdx.foldl (fun cs (p : Value × Nat) => cs.setIfInBounds (off + p.2) p.1) cells)[i]? = if off ≤ i ∧ i < off + xs.size then xs[i - off]? else cells[i]? := by
  have := foldSet off xs.toList 0 cells (by simpa using h)
  rw [← Array.foldl_toList]
  simpa using this

section
variable {P : Program} {E : LblP} {nt : Cx} {φ : Fr} {H : Heap} {ρ : Own} {ι : Places} {a : Act} {w : World} {o : Oper}

theorem notUndef {v : V} (h : v.isUndef = false) : v ≠ .undef := by rintro rfl; cases h

/-- Cells, each as its datum says. -/
def Cells (w : World) (F : Nat → Nat → Prop) (ι : Places) (vs : List V) (xs : Array Value) : Prop :=
  xs.size = vs.length ∧ ∀ (j : Nat) (v : V) (x : Value), vs[j]? = some v → xs[j]? = some x → R w F ι v x

theorem rdp_ok (s : StA E nt φ H ρ ι a w [] []) {X : Operand} {x : AX} (h : chkX X x = true) : R w (foot ρ) ι (rdp φ x) (a.eval X) := by
  unfold rdp
  split
  · unfold chkX at h
    split at h
    · rename_i e; cases e
    · rename_i e
      simp only [AX.c.injEq] at e
      subst e
      exact ((RL_other (by intro k r e; cases e)).1 (cVal_ok h _ _ _)).1
    · rename_i e; cases e
    · cases h
  · exact rd_ok s h

theorem fill_ok (s : StA E nt φ H ρ ι a w [] []) (pl : Nat → Option (Nat × Nat)) : ∀ (ps : List (Nat × Operand)) (qs : List (Nat × Nat × AX)) (us : List (Nat × List V)) (vs : List V) (cells : Array Value), chkParts pl ps qs = true → partsOf φ qs = some us →
    fits vs.length us = true → Cells w (foot ρ) ι vs cells → ∃ cells', Instr.fill pl cells (ps.map fun p => (p.1, a.eval p.2)) = some cells' ∧ Cells w (foot ρ) ι (overlay vs us) cells' ∧ (overlay vs us).length = vs.length
  | [], [], us, vs, cells, _, h2, _, hc => by
    simp only [partsOf, Option.some.injEq] at h2
    subst h2
    exact ⟨cells, rfl, hc, rfl⟩
  | (i, X) :: ps, (off, size, x) :: qs, us, vs, cells, h1, h2, h3, hc => by
    simp only [chkParts, Bool.and_eq_true] at h1
    obtain ⟨⟨hp, hx⟩, h1⟩ := h1
    simp only [partsOf] at h2
    split at h2
    · rename_i us' hus
      split at h2
      · rename_i hsz
        simp only [Option.some.injEq] at h2
        subst h2
        simp only [fits, Bool.and_eq_true, decide_eq_true_eq] at h3
        obtain ⟨hc1, hc2⟩ := cells_ok (rdp_ok s hx) (notUndef hsz.2)
        have hpl : pl i = some (off, size) := by
          split at hp
          · rename_i p hpe; rw [hpe]; simpa using hp
          · cases hp
        have hle : off + (a.eval X).cells.size ≤ cells.size := by rw [hc1, hc.1]; exact h3.1
        obtain ⟨f1, f2⟩ := foldSetA off (a.eval X).cells cells hle
        have hl : (setMany vs off (rdp φ x).cells).length = vs.length := setMany_length _ _ _
        obtain ⟨cells', r1, r2, r3⟩ := fill_ok s pl ps qs us' (setMany vs off (rdp φ x).cells) _ h1 hus (by rw [hl]; exact h3.2) ⟨by rw [f1, hl]; exact hc.1, fun j v y hv hy => by
          rw [f2] at hy
          rw [setMany_get _ _ _ _ h3.1] at hv
          by_cases h4 : off ≤ j ∧ j < off + (rdp φ x).cells.length
          · rw [if_pos h4] at hv
            rw [if_pos (by omega)] at hy
            exact hc2 _ _ _ hv hy
          · rw [if_neg h4] at hv
            rw [if_neg (by omega)] at hy
            exact hc.2 _ _ _ hv hy⟩
        refine ⟨cells', ?_, r2, by simp only [overlay]; rw [r3, hl]⟩
        simp only [List.map_cons, Instr.fill, hpl]
        rw [if_neg (by simp only [ne_eq, Bool.or_eq_true, decide_eq_true_eq]; omega)]
        exact r1
      · cases h2
    · cases h2
  | [], _ :: _, _, _, _, h1, _, _, _ => by simp [chkParts] at h1
  | _ :: _, [], _, _, _, h1, _, _, _ => by simp [chkParts] at h1

def placeOf (P : Program) (t : TypeId) : Option (Nat → Option (Nat × Nat)) :=
  match P.underlying t with
  | some (.array _ e) => (P.info? e).map fun ie => fun i => some (i * ie.size, ie.size)
  | some (.struct fields) => (fields.toList.mapM (fun f => (P.info? f.type).map fun i => (f.offset, i.size))).map fun places => fun i => places.toArray[i]?
  | _ => none

def chkBld (P : Program) (t : TypeId) (ps : Array (Nat × Operand)) (zero : List V) (qs : List (Nat × Nat × AX)) : Bool :=
  match placeOf P t with
  | some pl => chkParts pl ps.toList qs && zeroIs P t zero && noOwns zero
  | none => false

theorem zero_cells {t : TypeId} {zero : List V} {F : Nat → Nat → Prop} (hz : zeroIs P t zero = true) (hn : noOwns zero = true) : ∃ i z, P.info? t = some i ∧ i.zero = some z ∧ Cells w F ι zero z.cells := by
  obtain ⟨i, z, hi, hz1, hz2, hz3⟩ := zeroIs_ok hz
  exact ⟨i, z, hi, hz1, hz2, fun j v x hv hx => ((RL_other (noOwns_ok hn j v hv)).1 (cVal1_ok (hz3 j v x hv hx) w F ι)).1⟩

theorem bld_ok (s : StA E nt φ H ρ ι a w [] []) {t : TypeId} {ps : Array (Nat × Operand)} {zero : List V} {qs : List (Nat × Nat × AX)} (hc : chkBld P t ps zero qs = true) (ho : o.op = .build t ps) {us : List (Nat × List V)} (hu : partsOf φ qs = some us)
    (hf : fits zero.length us = true) : Runs P o a w (After E nt φ H (.agg (overlay zero us)) ρ ι a w) := by
  unfold chkBld at hc
  split at hc
  · rename_i pl hpl
    simp only [Bool.and_eq_true] at hc
    obtain ⟨⟨h1, h2⟩, h3⟩ := hc
    obtain ⟨i, z, hi, hz, hcz⟩ := zero_cells (w := w) (ι := ι) (F := foot ρ) h2 h3
    obtain ⟨cells', r1, r2, r3⟩ := fill_ok s pl ps.toList qs us zero z.cells h1 hu hf hcz
    have hb : P.built t (ps.map fun p => (p.1, a.eval p.2)).toList = some cells' := by
      unfold Program.built
      unfold placeOf at hpl
      split at hpl
      · rename_i n e he
        simp only [Option.map_eq_some_iff] at hpl
        obtain ⟨ie, hie, rfl⟩ := hpl
        simp only [hi, he, hz, hie, Array.toList_map]
        exact r1
      · rename_i fields he
        simp only [Option.map_eq_some_iff] at hpl
        obtain ⟨places, hpp, rfl⟩ := hpl
        simp only [hi, he, hz, hpp, Array.toList_map]
        exact r1
      · cases hpl
    have run := run_build w t _ cells' hb
    exact .value (.agg cells') (by simp [execOp, ho, run]) (.same s (.agg _ _ r2.1 r2.2))
  · cases hc

theorem replicate_get : ∀ (n : Nat) (zero : List V) (i : Nat), i < n * zero.length → (List.replicate n zero).flatten[i]? = zero[i % zero.length]?
  | 0, zero, i, h => by omega
  | n + 1, zero, i, h => by
    simp only [List.replicate_succ, List.flatten_cons]
    by_cases h1 : i < zero.length
    · rw [List.getElem?_append_left h1, Nat.mod_eq_of_lt h1]
    · rw [List.getElem?_append_right (by omega), replicate_get n zero (i - zero.length) (by rw [Nat.add_mul] at h; omega)]
      congr 1
      rw [Nat.mod_eq_sub_mod (by omega) (a := i)]

theorem replicate_len (n : Nat) (zero : List V) : (List.replicate n zero).flatten.length = n * zero.length := by simp

theorem make_cells {F : Nat → Nat → Prop} {zero : List V} {z : Array Value} (hc : Cells w F ι zero z) (n : Nat) (h0 : 0 < zero.length) :
    Cells w F ι (List.replicate n zero).flatten ((Array.range (n * zero.length)).map (z[· % z.size]!)) := by
  refine ⟨by simp, fun j v x hv hx => ?_⟩
  have hj := get_some hv
  rw [replicate_len] at hj
  rw [replicate_get _ _ _ hj] at hv
  have hlt : j % zero.length < zero.length := Nat.mod_lt _ h0
  simp [hj] at hx
  subst hx
  refine hc.2 _ _ _ hv ?_
  rw [hc.1]
  have : j % zero.length < z.size := by rw [hc.1]; exact hlt
  simp [this]

theorem plain_PR {F : Nat → Nat → Prop} {v : V} {x : Value} (h : R w F ι v x) (hv : v.plain = true) : PR w F v x := by
  cases h with
  | pr h => exact h
  | fn f l m xs ys hs ht h h' =>
    unfold V.plain at hv
    split at hv <;> try cases hv
    all_goals first | (rename_i he; cases he) | skip
    have e1 : xs = #[] := by simpa using hs
    have e2 : ys = #[] := by simpa using ht
    subst e1; subst e2
    exact .fn f
  | _ => cases hv

/-- A new block that holds rows that nobody writes: they read as a list. -/
theorem new_rows {F : Nat → Nat → Prop} {k n cap : Nat} {cells : List V} {xs : Array Value} {t : TypeId} (hc : ∀ (j : Nat) (v : V) (x : Value), cells[j]? = some v → xs[j]? = some x → PR w F v x) (hn : n * k ≤ cells.length) (hs : cells.length ≤ xs.size) (hcap : n ≤ cap)
    {w' : World} {F' : Nat → Nat → Prop} {fr : Nat × Nat} (hw : w'.heap[w.heap.size]? = some (.cells xs t fr)) (hF : ∀ o, o < cells.length → ¬ F' w.heap.size o)
    (hm : ∀ b o y, w.cell? ⟨b, o, none⟩ = some y → ¬ F b o → w'.cell? ⟨b, o, none⟩ = some y ∧ ¬ F' b o) :
    PR w' F' (.sl k (chunk k cells 0 n)) (.slice (some ⟨w.heap.size, 0, none⟩) n cap) := by
  have hx : ∀ j v, cells[j]? = some v → xs[j]? = some (xs.getD j Go.undef) := fun j v hv => by
    have := get_some hv
    have h2 : j < xs.size := by omega
    simp [h2]
  have := PR.sl (w := w') (F := F') k (chunk k cells 0 n) (some ⟨w.heap.size, 0, none⟩) cap w.heap.size 0 (fun i j => xs.getD (i * k + j) Go.undef) (by rw [chunk_length]; exact hcap) (fun h => by cases h) (chunk_width (by simpa using hn)) (fun _ => rfl)
    (fun i j r v hi hj => ?_) (fun i j r v hi hj => ?_)
  · rwa [chunk_length] at this
  · obtain ⟨_, _, h5⟩ := chunk_cell hi hj
    rw [Nat.zero_add] at h5
    refine ⟨?_, by rw [Nat.zero_add]; exact hF _ (get_some h5)⟩
    rw [cell_of_obj hw, Nat.zero_add]
    exact hx _ _ h5
  · obtain ⟨_, _, h5⟩ := chunk_cell hi hj
    rw [Nat.zero_add] at h5
    exact (hc _ _ _ h5 (hx _ _ h5)).mono hm

theorem kp_drew (F : Nat → Nat → Prop) (w : World) : Kp F w w.drew := ⟨rfl, rfl, rfl, Nat.le_refl _, fun _ _ => .refl _ _⟩

theorem Mem.kp {E : LblP} {H : Heap} {ι : Places} {ρ : Own} {w w' : World} (m : Mem E H ι ρ w) (p : Sep ρ w) (k : Kp (fun _ _ => False) w w') {ρ' : Own} (hb : ∀ i, ρ' (.blk i) = ρ (.blk i)) (hc : ∀ i j, ρ' (.cell i j) = ρ (.cell i j)) (g : Goes ρ ι w ρ' ι w') : Mem E H ι ρ' w' := by
  refine ⟨m.len, fun i vs hi hne => ?_, fun i vs l hi hl => ?_, fun i hi => ?_, fun i vs j hi hj => ?_, m.glo.ext g, m.lim⟩
  · obtain ⟨b, base, c, t, fr, h1, h2, h3, h4, h5, h6⟩ := m.blk i vs hi hne
    obtain ⟨c', fr', q1, q2, q3, _⟩ := k.obj_cells h3
    refine ⟨b, base, c', t, fr', h1, by rw [hb]; exact h2, q1, by omega, fun o h1 h2 => by rw [k.marks (lt_of_obj h3) (fun _ h => h)]; exact h5 o h1 (by omega), fun j v hj => ?_⟩
    obtain ⟨x, hx, hr, hu⟩ := h6 j v hj
    exact ⟨x, by rw [q3 _ (fun h => h)]; exact hx, by rw [hc]; exact hr.ext g (hc i j), hu⟩
  · exact (m.rcd i vs l hi hl).ext g (hb i) (hc i) (fun q b n _ hq => k.same (p.here _ _ _ hq))
  · rw [hb]; exact ⟨(m.dead i hi).1, fun j => by rw [hc]; exact (m.dead i hi).2 j⟩
  · rw [hc]; exact m.past i vs j hi hj

theorem kp_false {F : Nat → Nat → Prop} {w w' : World} (k : Kp (fun _ _ => False) w w') : Kp F w w' := k.mono (fun _ _ h => h.elim)

/-- A new block of memory that is none of ours but for its tail, which the value owns. -/
theorem StA.fresh (s : StA E nt φ H ρ ι a w [] []) {w' : World} (k : Kp (fun _ _ => False) w w') (n : Option Nat) (hb : n.isSome = true → w.heap.size < w'.heap.size) {v : V} {x : Value}
    (hv : ∀ F' : Nat → Nat → Prop, (∀ b o, F' b o ↔ foot ρ b o ∨ ∃ m, n = some m ∧ b = w.heap.size ∧ m ≤ o) → RL w' F' ι v x (n.map fun m => (w.heap.size, m))) :
    ∃ ρ', StA E nt φ H ρ' ι a w' [v] [x] ∧ Goes ρ ι w ρ' ι w' := by
  have ha := s.an 0 (by simp)
  have hinv : ∀ l p, ρ.put (.arg 0) (n.map fun m => (w.heap.size, m)) l = some p → (l = .arg 0 ∧ ∃ m, n = some m ∧ p = (w.heap.size, m)) ∨ (l ≠ .arg 0 ∧ ρ l = some p) := by
    intro l p h
    by_cases hl : l = .arg 0
    · subst hl; rw [Own.put_same] at h
      cases n with
      | none => cases h
      | some m => simp at h; exact .inl ⟨rfl, m, rfl, h.symm⟩
    · rw [Own.put_other _ _ hl] at h; exact .inr ⟨hl, h⟩
  have hf : ∀ b o, foot (ρ.put (.arg 0) (n.map fun m => (w.heap.size, m))) b o ↔ foot ρ b o ∨ ∃ m, n = some m ∧ b = w.heap.size ∧ m ≤ o := by
    intro b o
    constructor
    · rintro ⟨l, q, hl, hq⟩
      rcases hinv l _ hl with ⟨_, m, h1, h2⟩ | ⟨_, h1⟩
      · simp only [Prod.mk.injEq] at h2; obtain ⟨rfl, rfl⟩ := h2; exact .inr ⟨_, h1, rfl, hq⟩
      · exact .inl ⟨l, q, h1, hq⟩
    · rintro (⟨l, q, hl, hq⟩ | ⟨m, rfl, rfl, hq⟩)
      · exact ⟨l, q, by rw [Own.put_other _ _ (by rintro rfl; rw [ha] at hl; cases hl)]; exact hl, hq⟩
      · exact ⟨.arg 0, m, by simp, hq⟩
  have g : Goes ρ ι w (ρ.put (.arg 0) (n.map fun m => (w.heap.size, m))) ι w' := by
    refine .of (kp_false k) (fun _ _ h => h) (fun l b q hm h => ?_) (fun _ => Own.put_other _ _ (by simp)) (fun b hb => k.marks hb (fun _ h => h))
    rcases hinv l _ h with ⟨_, m, _, h2⟩ | ⟨_, h1⟩
    · simp only [Prod.mk.injEq] at h2; exact .inl (by omega)
    · exact .inr ⟨l, q, hm, h1, Nat.le_refl _⟩
  refine ⟨ρ.put (.arg 0) (n.map fun m => (w.heap.size, m)), ⟨s.sz, s.df.kp k, fun i => by rw [Own.put_other _ _ (by simp)]; exact (s.sl i).ext g (Own.put_other _ _ (by simp)), rfl, fun j u y h1 h2 => ?_, fun j hj => ?_, s.mem.kp s.sep k (fun _ => Own.put_other _ _ (by simp)) (fun _ _ => Own.put_other _ _ (by simp)) g, ⟨fun l l' b q q' h h' => ?_, fun l b q h => ?_⟩, s.wd⟩, g⟩
  · cases j with
    | zero => simp at h1 h2; subst h1; subst h2; rw [Own.put_same]; exact hv _ hf
    | succ j => simp at h1
  · rw [Own.put_other _ _ (by simp at hj ⊢; omega)]; exact s.an j (by simp)
  · rcases hinv l _ h with ⟨rfl, m, h1, h2⟩ | ⟨h0, h1⟩ <;> rcases hinv l' _ h' with ⟨rfl, m', h3, h4⟩ | ⟨h0', h3⟩
    · rfl
    · simp only [Prod.mk.injEq] at h2; have := s.sep.here _ _ _ h3; omega
    · simp only [Prod.mk.injEq] at h4; have := s.sep.here _ _ _ h1; omega
    · exact s.sep.one _ _ _ _ _ h1 h3
  · rcases hinv l _ h with ⟨_, m, h1, h2⟩ | ⟨_, h1⟩
    · simp only [Prod.mk.injEq] at h2; have := hb (by rw [h1]; rfl); omega
    · have := s.sep.here _ _ _ h1; have := k.size; omega

theorem fresh_mono {ρ : Own} {w w' : World} (k : Kp (fun _ _ => False) w w') (n : Option Nat) {F' : Nat → Nat → Prop} (hF : ∀ b o, F' b o ↔ foot ρ b o ∨ ∃ m, n = some m ∧ b = w.heap.size ∧ m ≤ o) :
    ∀ b o y, w.cell? ⟨b, o, none⟩ = some y → ¬ foot ρ b o → w'.cell? ⟨b, o, none⟩ = some y ∧ ¬ F' b o := by
  intro b o y hc hf
  refine ⟨k.cell hc (fun h => h), fun h => ?_⟩
  rcases (hF b o).1 h with h1 | ⟨m, _, h1, _⟩
  · exact hf h1
  · obtain ⟨c, t, fr, h2, _⟩ := cell_obj hc
    have := lt_of_obj h2; omega

def chkBsl (P : Program) (t : TypeId) (k n : Nat) (ps : Array (Nat × Operand)) (zero : List V) (qs : List (Nat × Nat × AX)) : Bool :=
  match P.underlying t with
  | some (.slice e) => sizeIs P e k && chkParts (fun i => some (i * k, k)) ps.toList qs && zeroIs P e zero && noOwns zero
  | _ => false

theorem run_bsl (s : StA E nt φ H ρ ι a w [] []) {t : TypeId} {k n : Nat} {ps : Array (Nat × Operand)} {zero : List V} {qs : List (Nat × Nat × AX)} (hc : chkBsl P t k n ps zero qs = true) (ho : o.op = .buildSlice t n ps) {us : List (Nat × List V)} (hu : partsOf φ qs = some us)
    (hz : zero.length = k) (hk : 0 < k) (hn : n * k ≤ 2 ^ 24) (hf : fits (n * k) us = true) : ∃ e cells, (execOp a.eval o).run P w = .ok (.value (.slice (some ⟨w.heap.size, 0, none⟩) n n)) (w.alloc (.cells cells e)) ∧
      Cells w (foot ρ) ι (overlay (List.replicate n zero).flatten us) cells ∧ (overlay (List.replicate n zero).flatten us).length = n * k := by
  unfold chkBsl at hc
  split at hc
  · rename_i e he
    simp only [Bool.and_eq_true] at hc
    obtain ⟨⟨⟨h1, h2⟩, h3⟩, h4⟩ := hc
    obtain ⟨i, z, hi, hz1, hcz⟩ := zero_cells (w := w) (ι := ι) (F := foot ρ) h3 h4
    obtain ⟨i', hi', hsz⟩ := sizeIs_ok h1
    rw [hi] at hi'; cases hi'
    have hc0 := make_cells hcz n (by omega)
    obtain ⟨cells', r1, r2, r3⟩ := fill_ok s (fun i => some (i * k, k)) ps.toList qs us _ _ h2 hu (by rw [replicate_len, hz]; exact hf) hc0
    refine ⟨e, cells', ?_, r2, by rw [r3, replicate_len, hz]⟩
    subst hsz
    rw [hz] at r1
    by_cases h0 : n = 0
    · subst h0
      have hr0 : Instr.fill (fun j => some (j * i.size, i.size)) #[] (ps.map fun p => (p.1, a.eval p.2)).toList = some cells' := by simpa [range0] using r1
      simp [execOp, ho, Instr.buildSlice, run_underlying he, sizeOf, typeInfo, hi, newRow, range0]
      rw [show (List.map (fun x => (x.fst, a.eval x.snd)) ps.toList) = (ps.map fun p => (p.1, a.eval p.2)).toList by simp, hr0]
      simp
    · have hpos : ¬ n * i.size = 0 := by
        have := Nat.mul_pos (Nat.pos_of_ne_zero h0) hk
        omega
      have run := run_buildSlice (P := P) w t e n (ps.map fun p => (p.1, a.eval p.2)) cells' i z he hi hz1 (by omega) hpos (by simpa using r1)
      simp [execOp, ho, run]
  · cases hc

theorem bsl_ok (s : StA E nt φ H ρ ι a w [] []) {t : TypeId} {k n : Nat} {ps : Array (Nat × Operand)} {zero : List V} {qs : List (Nat × Nat × AX)} (hc : chkBsl P t k n ps zero qs = true) (ho : o.op = .buildSlice t n ps) {us : List (Nat × List V)} (hu : partsOf φ qs = some us)
    (hz : zero.length = k) (hk : 0 < k) (hn : n * k ≤ 2 ^ 24) (hf : fits (n * k) us = true) (hp : (overlay (List.replicate n zero).flatten us).all V.plain = true) :
    Runs P o a w (After E nt φ H (.own k (chunk k (overlay (List.replicate n zero).flatten us) 0 n)) ρ ι a w) := by
  obtain ⟨e, cells, run, hcell, hlen⟩ := run_bsl (P := P) s hc ho hu hz hk hn hf
  generalize overlay (List.replicate n zero).flatten us = vs at *
  have kp := kp_alloc (fun _ _ => False) w (.cells cells e)
  obtain ⟨ρ', s', g⟩ := s.fresh (w' := w.alloc (.cells cells e)) kp (some (n * k)) (by simp) (v := .own k (chunk k vs 0 n)) (x := .slice (some ⟨w.heap.size, 0, none⟩) n n) (fun F' hF => by
    have hR := new_rows (k := k) (n := n) (cap := n) (cells := vs) (xs := cells) (t := e) (w := w) (F := foot ρ) (w' := w.alloc (.cells cells e)) (F' := F')
      (fun j v x hv hx => plain_PR (hcell.2 j v x hv hx) (by simpa using List.all_eq_true.1 hp v (List.mem_of_getElem? hv))) (by omega) (by rw [hcell.1]; exact Nat.le_refl _) (Nat.le_refl _) (heap_alloc_new w _) (fun o _ h => ?_) (fresh_mono kp (some (n * k)) hF)
    · refine ⟨hR, some ⟨w.heap.size, 0, none⟩, n, by rw [chunk_length], ?_⟩
      exact ⟨0, cells, e, (0, 0), rfl, by rw [chunk_length]; omega, heap_alloc_new w _, by rw [hcell.1]; omega, fun o _ _ => by simp⟩
    · rcases (hF _ _).1 h with ⟨l, q, hl, _⟩ | ⟨m, h1, _, h2⟩
      · have := s.sep.here _ _ _ hl; omega
      · simp at h1; omega)
  exact .value _ run ⟨ρ', ι, s', g⟩

theorem bsl_ms_ok (s : StA E nt φ H ρ ι a w [] []) {t : TypeId} {k n : Nat} {ps : Array (Nat × Operand)} {zero : List V} {qs : List (Nat × Nat × AX)} (hc : chkBsl P t k n ps zero qs = true) (ho : o.op = .buildSlice t n ps) {us : List (Nat × List V)} (hu : partsOf φ qs = some us)
    (hz : zero.length = k) (hk : 0 < k) (hn : n * k ≤ 2 ^ 24) (hf : fits (n * k) us = true) :
    Runs P o a w (After E nt φ (H ++ [some (overlay (List.replicate n zero).flatten us)]) (if n = 0 then .mg k H.length 0 0 0 else .ms H.length 0 n n) ρ ι a w) := by
  obtain ⟨e, cells, run, hcell, hlen⟩ := run_bsl (P := P) s hc ho hu hz hk hn hf
  generalize overlay (List.replicate n zero).flatten us = vs at *
  obtain ⟨s2, g2⟩ := s.push (by simp) vs cells e (fun _ => none) hcell.1 (fun j v x h h' => (hcell.2 j v x h h').RL) (fun j p h => by cases h)
  refine .value _ run ⟨_, _, s2.value ?_, g2⟩
  rw [← s.mem.len]
  by_cases h0 : n = 0
  · subst h0
    rw [if_pos rfl]
    exact .mg _ _ _ _ _ w.heap.size 0 0 _ (by simp) (Nat.le_refl _) (Nat.le_refl _) (fun h => absurd rfl h) (fun h => by cases h) ⟨_, _, _, heap_alloc_new w _, by omega⟩
  rw [if_neg h0]
  exact .ms _ _ _ _ w.heap.size 0 n _ (by simp) (Nat.le_refl _) (Nat.le_refl _) (fun _ => rfl) (fun h => by cases h)

def chkMk (P : Program) (t : TypeId) (k bytes : Nat) (zero : List V) : Bool :=
  match P.underlying t with
  | some (.slice e) => sizeIs P e k && bytesIs P e bytes && zeroIs P e zero && noOwns zero
  | _ => false

theorem wrap64_small (n : Int) (h : 0 ≤ n) (h' : n ≤ 2 ^ 40) : IntKind.i64.wrap n = n := by
  unfold IntKind.wrap
  simp [IntKind.bits, IntKind.signed]
  omega

theorem mk_ok (s : StA E nt φ H ρ ι a w [] []) {t : TypeId} {k bytes : Nat} {zero : List V} (hc : chkMk P t k bytes zero = true) {L C : Operand} {l c : AX} (hl : chkX L l = true) (hcc : chkX C c = true) (ho : o.op = .makeSlice t L C) {k1 k2 : IntKind} {m n : Int}
    (h1 : rd φ l = .int k1 m) (h2 : rd φ c = .int k2 n) (hm : 0 ≤ m) (hmn : m ≤ n) (hn : n ≤ 2 ^ 40) (hb : bytes ≤ 2 ^ 8) (hz : zero.length = k) (hk : 0 < k) :
    Runs P o a w (After E nt φ (H ++ [some (List.replicate n.toNat zero).flatten]) (.ms H.length 0 m.toNat n.toNat) ρ ι a w) := by
  unfold chkMk at hc
  split at hc
  · rename_i e he
    simp only [Bool.and_eq_true] at hc
    obtain ⟨⟨⟨q1, q2⟩, q3⟩, q4⟩ := hc
    obtain ⟨i, z, hi, hz1, hcz⟩ := zero_cells (w := w) (ι := ι) (F := foot ρ) q3 q4
    obtain ⟨i', hi', hsz⟩ := sizeIs_ok q1
    rw [hi] at hi'; cases hi'
    have hby : i.bytes = bytes := by
      unfold bytesIs at q2
      rw [hi] at q2; simpa using q2
    have e1 := (h1 ▸ rd_ok s hl).int_inv
    have e2 := (h2 ▸ rd_ok s hcc).int_inv
    have w1 := wrap64_small m hm (by omega)
    have w2 := wrap64_small n (by omega) hn
    have hc0 := make_cells hcz n.toNat (by omega)
    obtain ⟨s2, g2⟩ := s.push (by simp) _ _ e (fun _ => none) hc0.1 (fun j v x h h' => (hc0.2 j v x h h').RL) (fun j p h => by cases h)
    have hbn : ¬ ((i.bytes : Int) * n > 2 ^ 48) := by
      rw [hby]
      have : (bytes : Int) * n ≤ 2 ^ 8 * n := Int.mul_le_mul_of_nonneg_right (by omega) (by omega)
      omega
    refine .value (.slice (some ⟨w.heap.size, 0, none⟩) m.toNat n.toNat) ?_ ⟨_, _, s2.value ?_, g2⟩
    · have hsz2 : i.size = zero.length := by omega
      have c1 : ¬ n < 0 := by omega
      have c2 : ¬ m < 0 := by omega
      have c3 : ¬ m > n := by omega
      have c4 : ¬ (281474976710656 < (i.bytes : Int) * n) := hbn
      have hsz3 : i.size = k := hsz2.trans hz
      by_cases h0 : n.toNat * zero.length = 0
      · rw [h0]
        rw [hz] at h0
        simp only [execOp, ho, e1, e2, Instr.makeSlice, run_underlying he, Sem.run_bind, Sem.run_pure, Result.andThen, asInt, asIntOf, typeInfo, run_program, hi, w1, w2]
        simp [c1, c2, c3, c4, sizeOf, typeInfo, hi, hsz3, h0, newRow, range0]
      · rw [hz] at h0 ⊢
        simp only [execOp, ho, e1, e2, Instr.makeSlice, run_underlying he, Sem.run_bind, Sem.run_pure, Result.andThen, asInt, asIntOf, typeInfo, run_program, hi, w1, w2]
        simp [c1, c2, c3, c4, sizeOf, typeInfo, hi, hsz3, h0, newRow, zeroValue, hz1]
    · rw [← s.mem.len]
      exact .ms _ _ _ _ w.heap.size 0 _ _ (by simp) (by omega) (Nat.le_refl _) (fun _ => rfl) (fun h => by cases h)
  · cases hc

theorem mkz_ok (s : StA E nt φ H ρ ι a w [] []) {t : TypeId} {k bytes : Nat} {zero : List V} (hc : chkMk P t k bytes zero = true) {L C : Operand} {l c : AX} (hl : chkX L l = true) (hcc : chkX C c = true) (ho : o.op = .makeSlice t L C) {k1 k2 : IntKind} {m n : Int}
    (h1 : rd φ l = .int k1 m) (h2 : rd φ c = .int k2 n) (hm : 0 ≤ m) (hmn : m = n) (hn : n ≤ 2 ^ 24) (hb : bytes ≤ 2 ^ 8) (hz : zero.length = k) (hk : 0 < k) (hp : zero.all V.plain = true) :
    Runs P o a w (After E nt φ H (.own k (chunk k (List.replicate m.toNat zero).flatten 0 m.toNat)) ρ ι a w) := by
  subst hmn
  unfold chkMk at hc
  split at hc
  · rename_i e he
    simp only [Bool.and_eq_true] at hc
    obtain ⟨⟨⟨q1, q2⟩, q3⟩, q4⟩ := hc
    obtain ⟨i, z, hi, hz1, hcz⟩ := zero_cells (w := w) (ι := ι) (F := foot ρ) q3 q4
    obtain ⟨i', hi', hsz⟩ := sizeIs_ok q1
    rw [hi] at hi'; cases hi'
    have hby : i.bytes = bytes := by
      unfold bytesIs at q2
      rw [hi] at q2; simpa using q2
    have e1 := (h1 ▸ rd_ok s hl).int_inv
    have e2 := (h2 ▸ rd_ok s hcc).int_inv
    have w1 := wrap64_small m hm (by omega)
    have hcell := make_cells hcz m.toNat (by omega)
    have hbn : ¬ ((i.bytes : Int) * m > 2 ^ 48) := by
      rw [hby]
      have : (bytes : Int) * m ≤ 2 ^ 8 * m := Int.mul_le_mul_of_nonneg_right (by omega) (by omega)
      omega
    have hall : ((List.replicate m.toNat zero).flatten).all V.plain = true := by
      rw [List.all_eq_true]
      intro v hv
      obtain ⟨r, hr, hv⟩ := List.mem_flatten.1 hv
      rw [List.eq_of_mem_replicate hr] at hv
      exact List.all_eq_true.1 hp v hv
    have hlen := replicate_len m.toNat zero
    obtain ⟨cells, hcells⟩ : ∃ cells, cells = (Array.range (m.toNat * zero.length)).map (z.cells[· % z.cells.size]!) := ⟨_, rfl⟩
    have hrun : (execOp a.eval o).run P w = .ok (.value (.slice (some ⟨w.heap.size, 0, none⟩) m.toNat m.toNat)) (w.alloc (.cells cells e)) := by
      have hsz2 : i.size = zero.length := by omega
      have c1 : ¬ m < 0 := by omega
      have c4 : ¬ (281474976710656 < (i.bytes : Int) * m) := hbn
      have hsz3 : i.size = k := hsz2.trans hz
      rw [hcells]
      by_cases h0 : m.toNat * zero.length = 0
      · rw [h0]
        rw [hz] at h0
        simp only [execOp, ho, e1, e2, Instr.makeSlice, run_underlying he, Sem.run_bind, Sem.run_pure, Result.andThen, asInt, asIntOf, typeInfo, run_program, hi, w1]
        simp [c1, c4, sizeOf, typeInfo, hi, hsz3, h0, newRow, range0]
      · rw [hz] at h0 ⊢
        simp only [execOp, ho, e1, e2, Instr.makeSlice, run_underlying he, Sem.run_bind, Sem.run_pure, Result.andThen, asInt, asIntOf, typeInfo, run_program, hi, w1]
        simp [c1, c4, sizeOf, typeInfo, hi, hsz3, h0, newRow, zeroValue, hz1]
    rw [← hcells] at hcell
    generalize (List.replicate m.toNat zero).flatten = vs at *
    have kp := kp_alloc (fun _ _ => False) w (.cells cells e)
    obtain ⟨ρ', s', g⟩ := s.fresh (w' := w.alloc (.cells cells e)) kp (some (m.toNat * k)) (by simp) (v := .own k (chunk k vs 0 m.toNat)) (x := .slice (some ⟨w.heap.size, 0, none⟩) m.toNat m.toNat) (fun F' hF => by
      have hR := new_rows (k := k) (n := m.toNat) (cap := m.toNat) (cells := vs) (xs := cells) (t := e) (w := w) (F := foot ρ) (w' := w.alloc (.cells cells e)) (F' := F')
        (fun j v x hv hx => plain_PR (hcell.2 j v x hv hx) (by simpa using List.all_eq_true.1 hall v (List.mem_of_getElem? hv))) (by rw [hlen, hz]; exact Nat.le_refl _) (by rw [hcell.1]; exact Nat.le_refl _) (Nat.le_refl _) (heap_alloc_new w _) (fun o _ h => ?_) (fresh_mono kp (some (m.toNat * k)) hF)
      · refine ⟨hR, some ⟨w.heap.size, 0, none⟩, m.toNat, by rw [chunk_length], ?_⟩
        exact ⟨0, cells, e, (0, 0), rfl, by rw [chunk_length]; omega, heap_alloc_new w _, by rw [hcell.1, hlen, hz]; omega, fun o _ _ => by simp⟩
      · rcases (hF _ _).1 h with ⟨l, q, hl, _⟩ | ⟨m', h1, _, h2⟩
        · have := s.sep.here _ _ _ hl; omega
        · simp at h1; rw [hz] at hlen; omega)
    exact .value _ hrun ⟨ρ', ι, s', g⟩
  · cases hc

end
end Go.AM
