/-
  Stores, and what appends, copies and clears.
-/
import Derived.Test.YtbgblfbbeamleaaGreatDoorOpB
set_option linter.unusedVariables false
set_option linter.unusedSimpArgs false
namespace Go.AM

theorem one_cell {w : World} {F : Nat → Nat → Prop} {ι : Places} {v : V} {x : Value} (h : R w F ι v x) (hv : v.one = true) : x.oneCell' = true := by
  cases h with
  | pr h => cases h <;> rfl
  | undef x => cases hv
  | no => cases hv
  | ptr => rfl
  | rp => rfl
  | ms => rfl
  | agg => cases hv
  | tup => cases hv
  | fn => rfl
  | yld => rfl
  | bptr => rfl
  | mptr => rfl
  | mg => rfl
  | mix => rfl

theorem flatten_get {k : Nat} : ∀ {rows : List (List V)}, (∀ r ∈ rows, r.length = k) → ∀ (q : Nat) (v : V), rows.flatten[q]? = some v → 0 < k ∧ ∃ r, rows[q / k]? = some r ∧ r[q % k]? = some v
  | [], _, q, v, h => by simp at h
  | r :: rows, hk, q, v, h => by
    have hr := hk r (by simp)
    simp only [List.flatten_cons] at h
    by_cases h1 : q < r.length
    · rw [List.getElem?_append_left h1] at h
      refine ⟨by omega, r, ?_, ?_⟩
      · rw [Nat.div_eq_of_lt (by omega)]; rfl
      · rw [Nat.mod_eq_of_lt (by omega)]; exact h
    · rw [List.getElem?_append_right (by omega)] at h
      obtain ⟨h0, r', h2, h3⟩ := flatten_get (fun r hr => hk r (by simp [hr])) (q - r.length) v h
      refine ⟨h0, r', ?_, ?_⟩
      · rw [hr] at h2
        have : q / k = (q - k) / k + 1 := by
          rw [Nat.div_eq_sub_div h0 (by omega)]
        rw [this]; simpa using h2
      · rw [hr] at h3
        rw [Nat.mod_eq_sub_mod (by omega)]; exact h3

theorem flatten_len {k : Nat} : ∀ {rows : List (List V)}, (∀ r ∈ rows, r.length = k) → rows.flatten.length = rows.length * k
  | [], _ => by simp
  | r :: rows, hk => by
    simp only [List.flatten_cons, List.length_append, List.length_cons]
    rw [hk r (by simp), flatten_len (fun r hr => hk r (by simp [hr])), Nat.add_mul]; omega

theorem flatten_at {k : Nat} : ∀ {rows : List (List V)}, (∀ r ∈ rows, r.length = k) → ∀ (i j : Nat) (r : List V) (v : V), rows[i]? = some r → r[j]? = some v → rows.flatten[i * k + j]? = some v
  | [], _, i, j, r, v, h, _ => by simp at h
  | r0 :: rows, hk, i, j, r, v, h, hv => by
    have hr := hk r0 (by simp)
    simp only [List.flatten_cons]
    cases i with
    | zero =>
      simp at h; subst h
      have := get_some hv
      rw [List.getElem?_append_left (by omega)]; simpa using hv
    | succ i =>
      simp at h
      rw [List.getElem?_append_right (by rw [hr, Nat.add_mul]; omega), hr]
      rw [show (i + 1) * k + j - k = i * k + j by rw [Nat.add_mul]; omega]
      exact flatten_at (fun r hr => hk r (by simp [hr])) i j r v h hv

section
variable {P : Program} {E : LblP} {nt : Cx} {φ : Fr} {H : Heap} {ρ : Own} {ι : Places} {a : Act} {w : World} {o : Oper}

/-- Cells that can be read in a row are loaded so. -/
theorem load_row {F : Nat → Nat → Prop} {b off : Nat} {vs : List V} (h : ∀ (j : Nat) (v : V), vs[j]? = some v → ∃ y, w.cell? ⟨b, off + j, none⟩ = some y ∧ R w F ι v y) :
    ∃ ys, (loadCells ⟨b, off, none⟩ vs.length).run P w = .ok ys w ∧ Cells w F ι vs ys := by
  have hex : ∀ j, ∃ y, ∀ v, vs[j]? = some v → w.cell? ⟨b, off + j, none⟩ = some y ∧ R w F ι v y := by
    intro j
    rcases hj : vs[j]? with _ | v
    · exact ⟨default, fun v hv => by cases hv⟩
    · obtain ⟨y, h1, h2⟩ := h j v hj
      exact ⟨y, fun u hu => by cases hu; exact ⟨h1, h2⟩⟩
  let f : Nat → Value := fun j => (hex j).choose
  have hf : ∀ j v, vs[j]? = some v → w.cell? ⟨b, off + j, none⟩ = some (f j) ∧ R w F ι v (f j) := fun j v hv => (hex j).choose_spec v hv
  refine ⟨_, run_loadCells (P := P) w ⟨b, off, none⟩ vs.length f (fun j hj => by rw [add_eq]; exact (hf j vs[j] (by simp)).1), by simp, fun j v x hv hx => ?_⟩
  have hj := get_some hv
  simp [hj] at hx
  subst hx
  exact (hf j v hv).2

/-- A slice or a string that is read: its length, and its first cells. -/
def Src (P : Program) (w : World) (F : Nat → Nat → Prop) (ι : Places) (k : Nat) (rows : List (List V)) (x : Value) : Prop :=
  (Builtin.lenOf x).run P w = .ok rows.length w ∧ (∀ r ∈ rows, r.length = k) ∧ ∀ m, m ≤ rows.length → ∃ ys, (Builtin.firstCells k m x).run P w = .ok ys w ∧ Cells w F ι (rows.take m).flatten ys

theorem take_width {k m : Nat} {rows : List (List V)} (h : ∀ r ∈ rows, r.length = k) : ∀ r ∈ rows.take m, r.length = k := fun r hr => h r (List.mem_of_mem_take hr)

theorem Src.sl {F : Nat → Nat → Prop} {k : Nat} {rows : List (List V)} {x : Value} (h : PR w F (.sl k rows) x) : Src P w F ι k rows x := by
  cases h with
  | sl _ _ ad cap b off vals hcap hn hk ha hc hr =>
    refine ⟨by simp [Builtin.lenOf], hk, fun m hm => ?_⟩
    have hfl := flatten_len (take_width (m := m) hk)
    have hl : (rows.take m).length = m := by simp; omega
    rw [hl] at hfl
    cases ad with
    | none =>
      have := hn rfl
      have h0 : rows = [] := List.eq_nil_of_length_eq_zero (by omega)
      subst h0
      exact ⟨#[], by simp [Builtin.firstCells], by simp, by simp⟩
    | some ad =>
      by_cases hne : rows = []
      · subst hne
        have : m = 0 := by simpa using hm
        subst this
        exact ⟨#[], by simp [Builtin.firstCells, loadCells, loadCellsFrom], by simp, by simp⟩
      · have := ha hne
        simp at this; subst this
        obtain ⟨ys, h1, h2⟩ := load_row (P := P) (w := w) (ι := ι) (F := F) (b := b) (off := off) (vs := (rows.take m).flatten) (fun q v hq => by
          obtain ⟨h0, r, h1, h2⟩ := flatten_get (take_width hk) q v hq
          have h3 : rows[q / k]? = some r := by
            have := get_some h1
            rw [List.getElem?_take_of_lt (by simp at this; omega)] at h1
            exact h1
          have := hc _ _ r v h3 h2
          rw [show off + q / k * k + q % k = off + q by have := Nat.div_add_mod q k; rw [Nat.mul_comm] at this; omega] at this
          exact ⟨_, this.1, .pr (hr _ _ r v h3 h2)⟩)
        rw [hfl] at h1
        exact ⟨ys, by simpa [Builtin.firstCells] using h1, h2⟩

theorem bytesRows_flat (s : List UInt8) : (bytesRows s).flatten = s.map fun b => V.int .u8 b.toNat := by
  induction s with
  | nil => rfl
  | cons b s ih => simp [bytesRows] at ih ⊢; exact ih

theorem Src.str {F : Nat → Nat → Prop} (s : List UInt8) : Src P w F ι 1 (bytesRows s) (.string ⟨s.toArray⟩) := by
  refine ⟨?_, by simp [bytesRows], fun m hm => ?_⟩
  · have : (ByteArray.mk s.toArray).size = (bytesRows s).length := by simp [ByteArray.size, bytesRows]
    simp [Builtin.lenOf, this]
  · have h1 : (bytesRows s).take m = bytesRows (s.take m) := by simp [bytesRows, List.map_take]
    rw [h1, bytesRows_flat]
    refine ⟨_, by simp only [Builtin.firstCells]; rfl, ?_, fun j v x hv hx => ?_⟩
    · simp [ByteArray.size, bytes_extract]
    · simp only [bytes_extract, List.drop_zero] at hx
      simp only [List.getElem?_map, Option.map_eq_some_iff] at hv
      obtain ⟨b, hb, rfl⟩ := hv
      have hx2 : ((s.take m).map fun b => Value.int .u8 b.toNat)[j]? = some x := by simpa [List.map_take] using hx
      rw [List.getElem?_map, hb] at hx2
      simp at hx2
      subst hx2
      exact int_same

theorem strip_plain {v : V} (h : v.strip.plain = true) : True := trivial

/-- A part of a block is read. -/
theorem src_ms {us : List V} {xs : List Value} (s : StA E nt φ H ρ ι a w us xs) {x : Value} {k i off len cap : Nat} (hX : R w (foot ρ) ι (.ms i off len cap) x) {rows : List (List V)} (h : (match H[i]? with
    | some (some cs) => if off + len * k ≤ cs.length then some (chunk k (cs.map V.strip) off len) else none
    | _ => none) = some rows) : Src P w (foot ρ) ι k rows x := by
  obtain ⟨b, base, cap', ad, hp, hlc, hcc, had, hnn, eX⟩ := hX.ms_inv
  split at h
  · rename_i cs hi
    split at h
    · rename_i hle
      simp only [Option.some.injEq] at h
      subst h
      have hcl := chunk_length len k (cs.map V.strip) off
      have hw := chunk_width (n := len) (k := k) (cs := cs.map V.strip) (off := off) (by simpa using hle)
      rw [eX]
      refine ⟨by rw [hcl]; simp [Builtin.lenOf], hw, fun m hm => ?_⟩
      rw [hcl] at hm
      have hfl := flatten_len (take_width (m := m) hw)
      have hl : ((chunk k (cs.map V.strip) off len).take m).length = m := by rw [List.length_take, hcl]; omega
      rw [hl] at hfl
      by_cases hc0 : cap = 0
      · have : m = 0 := by omega
        subst this
        cases ad with
        | none => exact ⟨#[], by simp [Builtin.firstCells], by simp, by simp⟩
        | some ad => exact ⟨#[], by simp [Builtin.firstCells, loadCells, loadCellsFrom], by simp, by simp⟩
      · have := had hc0
        subst this
        obtain ⟨ys, h1, h2⟩ := load_row (P := P) (w := w) (ι := ι) (F := foot ρ) (b := b) (off := base + off) (vs := ((chunk k (cs.map V.strip) off len).take m).flatten) (fun q v hq => by
          obtain ⟨h0, r, h1, h2⟩ := flatten_get (take_width hw) q v hq
          have h3 : (chunk k (cs.map V.strip) off len)[q / k]? = some r := by
            have := get_some h1
            rw [List.getElem?_take_of_lt (by rw [List.length_take] at this; omega)] at h1
            exact h1
          obtain ⟨_, _, h5⟩ := chunk_cell h3 h2
          simp only [List.getElem?_map, Option.map_eq_some_iff] at h5
          obtain ⟨u, hu, rfl⟩ := h5
          obtain ⟨y, hy, hr⟩ := s.mem.reads hi hp _ u hu
          refine ⟨y, ?_, hr⟩
          rw [show base + off + q = base + (off + q / k * k + q % k) by have := Nat.div_add_mod q k; rw [Nat.mul_comm] at this; omega]
          exact hy)
        rw [hfl] at h1
        exact ⟨ys, by simpa [Builtin.firstCells] using h1, h2⟩
    · cases h
  · cases h

theorem src_ok {us : List V} {xs : List Value} (s : StA E nt φ H ρ ι a w us xs) {X : Operand} {x : AX} (hx : chkX X x = true) {k : Nat} {rows : List (List V)} (h : rowsOf H k (rd φ x) = some rows) : Src P w (foot ρ) ι k rows (a.eval X) := by
  have hX := rd_ok s hx
  unfold rowsOf at h
  split at h
  · rename_i k' r e
    split at h
    · simp only [Option.some.injEq] at h; subst_vars
      rw [e] at hX
      exact .sl hX.sl_inv
    · cases h
  · rename_i k' r e
    have : (rd φ x) ≠ .own k' r := by
      unfold rd
      cases ev φ x <;> simp [V.strip]
    exact absurd e this
  · rename_i l e
    split at h
    · simp only [Option.some.injEq] at h; subst_vars
      rw [e] at hX
      rw [hX.str_inv]
      exact .str _
    · cases h
  · rename_i i off len cap e
    rw [e] at hX
    exact src_ms s hX h
  · rename_i k' i off len cap e
    rw [e] at hX
    refine src_ms (cap := cap) s hX.mg_ms ?_
    split at h
    · rename_i cs hi
      split at h
      · rename_i hh
        rw [hi]
        dsimp only
        rw [if_pos hh.2]; exact h
      · cases h
    · cases h
  · cases h

/-! ### A store -/

theorem wrote_kp {w w' : World} {b off : Nat} {xs : List Value} (h : Wrote w w' b off xs) {k : Key} {n : Nat} (hm : k.mine = true) (hk : ρ k = some (b, n)) (hn : n ≤ off) : Kp (afoot ρ) w w' :=
  h.kp (fun o h1 _ => ⟨k, n, hm, hk, by omega⟩)

theorem underAll_get {m : Nat} {vs : List V} (h : V.underAll m vs = true) {j : Nat} {v : V} (hj : vs[j]? = some v) : v.under m = true := underAll_iff.1 h j v hj

/-- The owners behind a store: an operand's tail goes to the one cell that is written; what the written cells owned is gone. -/
def Own.store (ρ : Own) (i off n : Nat) (T : Option (Nat × Nat)) : Own
  | .blk i => ρ (.blk i)
  | .cell i' j => if i' = i ∧ off ≤ j ∧ j < off + n then (if j = off then T else none) else ρ (.cell i' j)
  | .slot s => ρ (.slot s)
  | .arg j => if j = 0 then none else ρ (.arg j)
  | .fr n => ρ (.fr n)

theorem store_inv {ρ : Own} {i off n : Nat} {T : Option (Nat × Nat)} (hT : ∀ p, T = some p → ρ (.arg 0) = some p) : ∀ k p, ρ.store i off n T k = some p → (k = .cell i off ∧ ρ (.arg 0) = some p) ∨ (k ≠ .arg 0 ∧ ρ k = some p) := by
  intro k p h
  cases k with
  | blk j => exact .inr ⟨by simp, h⟩
  | slot j => exact .inr ⟨by simp, h⟩
  | fr j => exact .inr ⟨by simp, h⟩
  | arg j =>
    simp only [Own.store] at h
    split at h
    · cases h
    · exact .inr ⟨by simpa using ‹_›, h⟩
  | cell i' j =>
    simp only [Own.store] at h
    split at h
    · rename_i hc
      split at h
      · rename_i hj; obtain ⟨hii, _⟩ := hc; subst hii; subst hj; exact .inl ⟨rfl, hT _ h⟩
      · cases h
    · exact .inr ⟨by simp, h⟩

theorem StA.store {vs us : List V} {zs : List Value} (s : StA E nt φ H ρ ι a w us zs) (hus : us.length ≤ 1) {i b base off : Nat} {cs : List V} {w' : World} {xs : List Value} (hi : H[i]? = some (some cs)) (hp : ι[i]? = some (.blk b base))
    (hw : Wrote w w' b (base + off) xs) (hl : xs.length = vs.length) (hs : off + vs.length ≤ cs.length) {T : Option (Nat × Nat)} (hT : ∀ p, T = some p → ρ (.arg 0) = some p)
    (hv : ∀ (j : Nat) (v : V) (x : Value), vs[j]? = some v → xs[j]? = some x → RL w (foot ρ) ι v x (if j = 0 then T else none) ∧ E.fit i v) :
    ∃ ρ', StA E nt φ (H.set i (some (setMany cs off vs))) ρ' ι a w' [] [] ∧ Goes ρ ι w ρ' ι w' := by
  obtain ⟨hbi, c, t, fr, hrow, hsz, hfz, _⟩ := s.mem.at hi hp
  have hinv := store_inv (ρ := ρ) (i := i) (off := off) (n := vs.length) hT
  have g : Goes ρ ι w (ρ.store i off vs.length T) ι w' := by
    refine .of (wrote_kp hw rfl hbi (by omega)) (fun _ _ h => h) (fun k b n hm h => ?_) (fun _ => rfl) (fun b _ => hw.marks b)
    rcases hinv k _ h with ⟨_, h1⟩ | ⟨_, h1⟩
    · exact .inr ⟨_, n, rfl, h1, Nat.le_refl _⟩
    · exact .inr ⟨_, n, hm, h1, Nat.le_refl _⟩
  refine ⟨ρ.store i off vs.length T, ⟨s.sz, s.df.kp g.kp, fun q => (s.sl q).ext (k := .slot q) g rfl, rfl, fun j v x h => by simp at h, fun j _ => ?_, ?_, ⟨fun k k' b n n' h h' => ?_, fun k b n h => ?_⟩, s.wd⟩, g⟩
  · simp only [Own.store]
    split
    · rfl
    · exact s.an j (by omega)
  · refine s.mem.write s.sep hi hp hw hl hs g (fun _ => rfl) (fun k j h => ?_) (fun j v x h1 h2 => ?_)
    · simp only [Own.store]; rw [if_neg (by omega)]
    · obtain ⟨r1, r2⟩ := hv j v x h1 h2
      refine ⟨?_, r2⟩
      have hj := get_some h1
      simp only [Own.store]
      rw [if_pos ⟨trivial, by omega, by omega⟩]
      have := r1.extw g (fun p hp => by
        split at hp
        · exact ⟨.cell i off, by simp only [Own.store]; rw [if_pos ⟨trivial, by omega, by omega⟩, if_pos trivial]; exact hp⟩
        · cases hp)
      by_cases hj0 : j = 0
      · subst hj0; simpa using this
      · rw [if_neg hj0] at this; rw [if_neg (by omega)]; exact this
  · rcases hinv k _ h with ⟨rfl, h1⟩ | ⟨h0, h1⟩ <;> rcases hinv k' _ h' with ⟨rfl, h2⟩ | ⟨h0', h2⟩
    · rfl
    · exact absurd (s.sep.one _ _ _ _ _ h1 h2).symm h0'
    · exact absurd (s.sep.one _ _ _ _ _ h1 h2) h0
    · exact s.sep.one _ _ _ _ _ h1 h2
  · have hsize := hw.size
    rcases hinv k _ h with ⟨_, h1⟩ | ⟨_, h1⟩
    · have := s.sep.here _ _ _ h1; omega
    · have := s.sep.here _ _ _ h1; omega

theorem st_ok (s : StA E nt φ H ρ ι a w [] []) {X Y : Operand} {x y : AX} (hx : chkX X x = true) (hy : chkX Y y = true) {t : TypeId} {n : Nat} (ht : sizeIs P t n = true) (ho : o.op = .store t X Y) {i off : Nat} {cs : List V} (hr : rd φ x = .ptr i off)
    (hi : H[i]? = some (some cs)) (hn : (takeX φ y).1.cells.length = n) (hs : off + n ≤ cs.length) (hu : ∀ (j : Nat) (u : V), (takeX φ y).1.cells[j]? = some u → E.fit i u) (h1 : (takeX φ y).1.cells.all V.one = true) :
    Runs P o a w (After E nt (takeX φ y).2 (H.set i (some (setMany cs off (takeX φ y).1.cells))) .undef ρ ι a w) := by
  obtain ⟨b, base, hp, eX⟩ := (hr ▸ rd_ok s hx).ptr_inv
  obtain ⟨hbi, c, ty, fr, hrow, hsz, hfz, _⟩ := s.mem.at hi hp
  obtain ⟨ρ1, s1, g1⟩ := take_ok s hy
  simp only [List.nil_append] at s1
  have hR := s1.ar 0 _ _ rfl rfl
  have hv0 : (takeX φ y).1 ≠ .undef := by
    intro h; rw [h] at h1; simp [V.cells, V.one] at h1
  -- the operand's cells
  have hcells : (a.eval Y).cells.size = (takeX φ y).1.cells.length ∧ ∀ (j : Nat) (v : V) (z : Value), (takeX φ y).1.cells[j]? = some v → (a.eval Y).cells[j]? = some z → RL w (foot ρ1) ι v z (if j = 0 then (match (takeX φ y).1 with | .own _ _ => ρ1 (.arg 0) | _ => none) else none) ∧ z.oneCell' = true := by
    rcases own_or (takeX φ y).1 with ⟨k, r, he⟩ | hne
    · rw [he] at hR ⊢
      refine ⟨by rw [slice_cells hR.1]; rfl, fun j v z hv hz => ?_⟩
      rw [slice_cells hR.1] at hz
      cases j with
      | zero =>
        simp [V.cells] at hv hz; subst hv; subst hz
        refine ⟨by simpa using hR, ?_⟩
        obtain ⟨_, ad, cap, e, _⟩ := hR
        rw [e]; rfl
      | succ j => simp at hz
    · have h0 := (RL_other hne).1 hR
      obtain ⟨q1, q2⟩ := cells_ok h0.1 hv0
      refine ⟨q1, fun j v z hv hz => ?_⟩
      have hRv := q2 j v z hv hz
      have : v.one = true := by simpa using List.all_eq_true.1 h1 v (List.mem_of_getElem? hv)
      refine ⟨?_, one_cell hRv this⟩
      have hm : (match (takeX φ y).1 with | .own _ _ => ρ1 (.arg 0) | _ => none) = none := by
        generalize (takeX φ y).1 = u at hne
        cases u <;> first | rfl | exact absurd rfl (hne _ _)
      rw [hm]; simp; exact hRv.RL
  obtain ⟨w', run, hw⟩ := run_storeCells (P := P) (a.eval Y).cells.toList (base + off) 0 w c ty fr hrow (by simp; omega) (fun o h1 h2 => hfz o (by omega) h2) (fun z hz => by
    obtain ⟨j, hj⟩ := List.getElem?_of_mem hz
    have hlt : j < (takeX φ y).1.cells.length := by have := get_some hj; simp at this; omega
    exact (hcells.2 j (takeX φ y).1.cells[j] z (by simp) (by simpa using hj)).2)
  rw [Nat.add_zero] at hw
  obtain ⟨ρ2, s2, g2⟩ := s1.store (vs := (takeX φ y).1.cells) (by simp) hi hp hw (by simpa using hcells.1) (by omega) (T := match (takeX φ y).1 with | .own _ _ => ρ1 (.arg 0) | _ => none) (fun p h => by
      revert h
      split
      · exact id
      · intro h; cases h) (fun j v z hv hz => ⟨(hcells.2 j v z hv (by simpa using hz)).1, hu j v hv⟩)
  refine .inr (.inl ⟨w', ?_, ρ2, ι, s2.value (.undef _), g1.trans g2⟩)
  have hne : ¬ (a.eval Y).cells.size ≠ n := by simp; omega
  simp [execOp, ho, eX, Instr.storeAt, Instr.sureAddr, storeVar, run_sizeOf ht, show (a.eval Y).cells.size = n by omega, run]

/-- A list's end is taken out of a cell. -/
theorem ldo_own_ok (s : StA E nt φ H ρ ι a w [] []) {X : Operand} {x : AX} (hx : chkX X x = true) {t : TypeId} (ht : aggIs P t none = true) (ho : o.op = .load t X) {i off k : Nat} {cs : List V} {r : List (List V)} (hr : rd φ x = .ptr i off)
    (hi : H[i]? = some (some cs)) (hc : cs[off]? = some (.own k r)) : Runs P o a w (After E nt φ (H.set i (some (cs.set off (.sl k r)))) (.own k r) ρ ι a w) := by
  obtain ⟨b, base, hp, eX⟩ := (hr ▸ rd_ok s hx).ptr_inv
  obtain ⟨hbi, c, ty, fr, hrow, hsz, hfz, hcells⟩ := s.mem.at hi hp
  obtain ⟨y, hy, hRL, hun⟩ := hcells off _ hc
  have hcell : w.cell? ⟨b, base + off, none⟩ = some y := by rw [cell_of_obj hrow]; exact hy
  have hg := aggIs_ok ht w
  have hk : Key.arg 0 ≠ Key.cell i off := by simp
  have hf := foot_move ρ hk (s.an 0 (by simp))
  have ho' : ∀ l, l ≠ .cell i off → l ≠ .arg 0 → ρ.move (.cell i off) (.arg 0) l = ρ l := fun l h h' => Own.move_other _ h h'
  have hlt := get_some hc
  refine .value y (by simp [execOp, ho, eX, Instr.loadAt, Instr.sureAddr, loadVar, hg, hcell]) ⟨ρ.move (.cell i off) (.arg 0), ι, ⟨s.sz, s.df, fun q => ?_, rfl, fun j u z h1 h2 => ?_, fun j hj => ?_, ?_, s.sep.move hk, s.wd⟩, Goes.move _ _ _ hk (by simp) (by simp)⟩
  · rw [hf, ho' _ (by simp) (by simp)]; exact s.sl q
  · cases j with
    | zero => simp at h1 h2; subst h1; subst h2; rw [Own.move_to _ hk, hf]; exact hRL
    | succ j => simp at h1
  · rw [ho' _ (by simp) (by simp at hj ⊢; omega)]; exact s.an j (by simp)
  · refine ⟨by simp [s.mem.len], fun q vs hq hne => ?_, fun q vs l hq hl => ?_, fun q hq => ?_, fun q vs j hq hj => ?_, s.mem.glo.foot (fun _ _ h => hf ▸ h), fun N hN => by rw [List.length_set]; exact s.mem.lim N hN⟩
    · by_cases hqi : q = i
      · subst hqi
        rw [List.getElem?_set_self (get_some hi)] at hq
        simp only [Option.some.injEq] at hq
        subst hq
        refine ⟨b, base, c, ty, fr, hp, by rw [ho' _ (by simp) (by simp)]; exact hbi, hrow, by simpa using hsz, hfz, fun j v hv => ?_⟩
        by_cases hj : j = off
        · subst hj
          rw [List.getElem?_set_self hlt] at hv
          simp only [Option.some.injEq] at hv
          subst hv
          exact ⟨y, hy, by rw [Own.move_from, hf]; exact R.RL (.pr hRL.1), LblP.fit_of rfl⟩
        · rw [List.getElem?_set_ne (by omega)] at hv
          obtain ⟨z, q1, q2, q3⟩ := hcells j v hv
          exact ⟨z, q1, by rw [hf, ho' _ (by simpa using hj) (by simp)]; exact q2, q3⟩
      · rw [List.getElem?_set_ne (by omega)] at hq
        obtain ⟨b1, base1, c1, t1, fr1, q1, q2, q3, q4, q5, q6⟩ := s.mem.blk q vs hq hne
        refine ⟨b1, base1, c1, t1, fr1, q1, by rw [ho' _ (by simp) (by simp)]; exact q2, q3, q4, q5, fun j v hv => ?_⟩
        obtain ⟨z, r1, r2, r3⟩ := q6 j v hv
        exact ⟨z, r1, by rw [hf, ho' _ (by simp [hqi]) (by simp)]; exact r2, r3⟩
    · have hqi : q ≠ i := by
        rintro rfl
        exact not_lp hp l hl
      rw [List.getElem?_set_ne (by omega)] at hq
      exact (s.mem.rcd q vs l hq hl).mono (fun b o y h1 h2 => ⟨h1, by rw [hf]; exact h2⟩) (fun _ _ h => h) (fun _ _ h => h) (ho' _ (by simp) (by simp)) (fun j => ho' _ (by simp [hqi]) (by simp)) (fun _ _ _ _ _ => rfl)
    · have hqi : q ≠ i := by
        rintro rfl
        exact hq _ (List.getElem?_set_self (get_some hi))
      have := s.mem.dead q (fun vs hv => hq vs (by rw [List.getElem?_set_ne (by omega)]; exact hv))
      exact ⟨by rw [ho' _ (by simp) (by simp)]; exact this.1, fun j => by rw [ho' _ (by simp [hqi]) (by simp)]; exact this.2 j⟩
    · by_cases hqi : q = i
      · subst hqi
        rw [List.getElem?_set_self (get_some hi)] at hq
        simp only [Option.some.injEq] at hq
        subst hq
        rw [List.length_set] at hj
        rw [ho' _ (by simp; omega) (by simp)]
        exact s.mem.past q cs j hi hj
      · rw [List.getElem?_set_ne (by omega)] at hq
        rw [ho' _ (by simp [hqi]) (by simp)]
        exact s.mem.past q vs j hq hj

theorem ldo_ok (s : StA E nt φ H ρ ι a w [] []) {X : Operand} {x : AX} (hx : chkX X x = true) {t : TypeId} (ht : aggIs P t none = true) (ho : o.op = .load t X) {i off : Nat} {cs : List V} {v : V} (hr : rd φ x = .ptr i off)
    (hi : H[i]? = some (some cs)) (hc : cs[off]? = some v) (hv : ∀ k r, v ≠ .own k r) (hn : ∀ k, v ≠ .nils k) : Runs P o a w (After E nt φ H v ρ ι a w) := by
  refine ld_ok s hx ht ho ?_
  rw [hr]
  simp [AM.load, hi, loadFrom, hc, strip_other hv hn]

/-- A nil list is an own one, and nobody's. -/
theorem ldo_nils_ok (s : StA E nt φ H ρ ι a w [] []) {X : Operand} {x : AX} (hx : chkX X x = true) {t : TypeId} (ht : aggIs P t none = true) (ho : o.op = .load t X) {i off k : Nat} {cs : List V} (hr : rd φ x = .ptr i off)
    (hi : H[i]? = some (some cs)) (hc : cs[off]? = some (.nils k)) : Runs P o a w (After E nt φ H (.own k []) ρ ι a w) := by
  obtain ⟨b, base, hp, eX⟩ := (hr ▸ rd_ok s hx).ptr_inv
  obtain ⟨hbi, c, ty, fr, hrow, hsz, hfz, hcells⟩ := s.mem.at hi hp
  obtain ⟨y, hy, hRL, hun⟩ := hcells off _ hc
  have hcell : w.cell? ⟨b, base + off, none⟩ = some y := by rw [cell_of_obj hrow]; exact hy
  have hg := aggIs_ok ht w
  have hy0 : y = .slice none 0 0 := ((RL_other (by simp)).1 hRL).1.nils_inv
  refine .value y (by simp [execOp, ho, eX, Instr.loadAt, Instr.sureAddr, loadVar, hg, hcell]) ⟨ρ, ι, ⟨s.sz, s.df, s.sl, rfl, fun j u z h1 h2 => ?_, fun j hj => s.an j (by simp), s.mem, s.sep, s.wd⟩, .refl _ _ _⟩
  cases j with
  | zero =>
    simp at h1 h2; subst h1; subst h2
    rw [s.an 0 (by simp), hy0]
    exact ro_nil _ _ k
  | succ j => simp at h1

end
end Go.AM
