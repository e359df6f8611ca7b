/-
  '==' of structs and arrays of plain parts: what the model's runs answer, cell by cell.
-/
import Derived.Test.YtbgblfbbeamleaaGreatDoorOpA
import Derived.Laws.StructEq
import Derived.ChangeKeysEq
namespace Go.AM
set_option linter.unusedVariables false

def fieldKinds (P : Program) (f : TypeId → Option (List CK)) : List Field → Nat → Option (List CK)
  | [], _ => some []
  | g :: r, off => if g.name ≠ "_" ∧ g.offset = off then match f g.type with
      | some l => if l.length = P.cellsOf g.type then (fieldKinds P f r (off + l.length)).map (l ++ ·) else none
      | none => none
    else none

/-- The kinds of a type's cells, where all are plain. -/
def kindsAt (P : Program) : Nat → TypeId → Option (List CK)
  | 0, _ => none
  | d + 1, t => match P.underlying t with
    | some .bool => some [.bool]
    | some (.int k) => some [.int k]
    | some .string => some [.str]
    | some (.array n e) => match kindsAt P d e with
      | some l => if l.length = P.cellsOf e then some (List.replicate n l).flatten else none
      | none => none
    | some (.struct fs) => if P.stoodInHeld t = true then none else fieldKinds P (kindsAt P d) fs.toList 0
    | _ => none

theorem Cs.len : ∀ {ks : List CK} {vs : List V} {xs : List Value}, Cs ks vs xs → vs.length = ks.length ∧ xs.length = ks.length
  | [], [], [], _ => ⟨rfl, rfl⟩
  | [], [], _ :: _, h => by simp [Cs] at h
  | [], _ :: _, _, h => by simp [Cs] at h
  | k :: ks, [], _, h => by cases k <;> simp [Cs] at h
  | k :: ks, v :: vs, [], h => by cases k <;> cases v <;> simp [Cs] at h
  | k :: ks, v :: vs, x :: xs, h => by
    cases k <;> cases v <;> simp only [Cs] at h <;> first | exact h.elim | skip
    · have := Cs.len h.2; simp only [List.length_cons]; omega
    · have := Cs.len h.2.2; simp only [List.length_cons]; omega
    · have := Cs.len h.2; simp only [List.length_cons]; omega

theorem Cs.split : ∀ {k1 k2 : List CK} {vs : List V} {xs : List Value}, Cs (k1 ++ k2) vs xs → Cs k1 (vs.take k1.length) (xs.take k1.length) ∧ Cs k2 (vs.drop k1.length) (xs.drop k1.length)
  | [], k2, vs, xs, h => by simpa [Cs] using h
  | k :: k1, k2, [], _, h => by cases k <;> simp [Cs] at h
  | k :: k1, k2, v :: vs, [], h => by cases k <;> cases v <;> simp [Cs] at h
  | k :: k1, k2, v :: vs, x :: xs, h => by
    cases k <;> cases v <;> simp only [List.cons_append, Cs] at h <;> first | exact h.elim | skip
    · have := Cs.split h.2; simp only [List.length_cons, List.take_succ_cons, List.drop_succ_cons, Cs]; exact ⟨⟨h.1, this.1⟩, this.2⟩
    · have := Cs.split h.2.2; simp only [List.length_cons, List.take_succ_cons, List.drop_succ_cons, Cs]; exact ⟨⟨h.1, h.2.1, this.1⟩, this.2⟩
    · have := Cs.split h.2; simp only [List.length_cons, List.take_succ_cons, List.drop_succ_cons, Cs]; exact ⟨⟨h.1, this.1⟩, this.2⟩

theorem eqCells_split : ∀ {k1 k2 : List CK} {a b : List V} {r : Bool}, eqCells (k1 ++ k2) a b = some r →
    ∃ r1 r2, eqCells k1 (a.take k1.length) (b.take k1.length) = some r1 ∧ eqCells k2 (a.drop k1.length) (b.drop k1.length) = some r2 ∧ r = (r1 && r2)
  | [], k2, a, b, r, h => ⟨true, r, by simp [eqCells], by simpa using h, by simp⟩
  | k :: k1, k2, [], b, r, h => by cases k <;> simp [eqCells] at h
  | k :: k1, k2, v :: a, [], r, h => by cases k <;> cases v <;> simp [eqCells] at h
  | k :: k1, k2, v :: a, u :: b, r, h => by
    cases k <;> cases v <;> cases u <;> simp only [List.cons_append, eqCells] at h <;> first | (cases h; done) | skip
    · simp only [Option.map_eq_some_iff] at h
      obtain ⟨r', h', rfl⟩ := h
      obtain ⟨r1, r2, e1, e2, rfl⟩ := eqCells_split h'
      simp only [List.length_cons, List.take_succ_cons, List.drop_succ_cons, eqCells, e1]
      exact ⟨_, r2, rfl, e2, (Bool.and_assoc _ _ _).symm⟩
    · split at h
      · rename_i hk
        simp only [Option.map_eq_some_iff] at h
        obtain ⟨r', h', rfl⟩ := h
        obtain ⟨r1, r2, e1, e2, rfl⟩ := eqCells_split h'
        simp only [List.length_cons, List.take_succ_cons, List.drop_succ_cons, eqCells, e1, if_pos hk]
        exact ⟨_, r2, rfl, e2, (Bool.and_assoc _ _ _).symm⟩
      · cases h
    · simp only [Option.map_eq_some_iff] at h
      obtain ⟨r', h', rfl⟩ := h
      obtain ⟨r1, r2, e1, e2, rfl⟩ := eqCells_split h'
      simp only [List.length_cons, List.take_succ_cons, List.drop_succ_cons, eqCells, e1]
      exact ⟨_, r2, rfl, e2, (Bool.and_assoc _ _ _).symm⟩

section
variable {P : Program} (w : World)

/-- A part of a struct or an array. -/
theorem run_part_cs {d : Nat} {e : TypeId} {l : List CK} (hk : kindsAt P d e = some l) (hl : l.length = P.cellsOf e) {off : Nat} {xs : Array Value} {vs : List V} (hc : Cs l vs ((xs.toList.drop off).take l.length)) :
    ∃ x, (part e xs off).run P w = .ok x w ∧ x.formed P e = true ∧ x.cells.toList = (xs.toList.drop off).take l.length := by
  cases d with
  | zero => simp [kindsAt] at hk
  | succ d =>
    have hlen := hc.len.2
    have agg : (∃ n e', P.underlying e = some (.array n e')) ∨ (∃ fs, P.underlying e = some (.struct fs)) → ∃ a, (part e xs off).run P w = .ok a w ∧ a.formed P e = true ∧ a.cells.toList = (xs.toList.drop off).take l.length := by
      intro hu
      have hl2 : (xs.extract off (off + P.cellsOf e)).toList = (xs.toList.drop off).take (P.cellsOf e) := by
        rw [Array.toList_extract]
        simp [List.extract]
      refine ⟨.agg (xs.extract off (off + P.cellsOf e)), ?_, ?_, by rw [hl]; exact hl2⟩
      · rcases hu with ⟨n, e', hu⟩ | ⟨fs, hu⟩
        · obtain ⟨i, hi⟩ := info_of_underlying hu
          simp [part, isAgg, run_underlying hu, run_sizeOf w hi]
        · obtain ⟨i, hi⟩ := info_of_underlying hu
          simp [part, isAgg, run_underlying hu, run_sizeOf w hi]
      · have hs : (xs.extract off (off + P.cellsOf e)).size = P.cellsOf e := by rw [← Array.length_toList, hl2, ← hl]; exact hlen
        rcases hu with ⟨n, e', hu⟩ | ⟨fs, hu⟩ <;> simp [Value.formed, hu, hs]
    have plain : ∀ v, P.plainKey e = true → (xs.toList.drop off).take l.length = [v] → v.formed P e = true → v.cells = #[v] → ∃ a, (part e xs off).run P w = .ok a w ∧ a.formed P e = true ∧ a.cells.toList = (xs.toList.drop off).take l.length := by
      intro v hp hv hf hcl
      refine ⟨v, run_part_plain w hp ?_, hf, by rw [hv, hcl]⟩
      have : (xs.toList.drop off)[0]? = some v := by
        have h0 := congrArg (fun z => z[0]?) hv
        simp only [List.getElem?_cons_zero] at h0
        rw [List.getElem?_take] at h0
        split at h0
        · exact h0
        · cases h0
      rw [List.getElem?_drop] at this
      simpa using this
    unfold kindsAt at hk
    split at hk
    · rename_i hu
      cases hk
      generalize (xs.toList.drop off).take [CK.bool].length = ch at hc hlen plain agg ⊢
      match ch, vs, hc, hlen with
      | [x], [.bool b], hc, _ =>
        simp only [Cs] at hc
        obtain ⟨rfl, _⟩ := hc
        exact plain _ (by simp [Program.plainKey, hu]) rfl (by simp [Value.formed, hu]) rfl
    · rename_i k hu
      cases hk
      generalize (xs.toList.drop off).take [CK.int k].length = ch at hc hlen plain agg ⊢
      match ch, vs, hc, hlen with
      | [x], [.int k' n], hc, _ =>
        simp only [Cs] at hc
        obtain ⟨rfl, rfl, _⟩ := hc
        exact plain _ (by simp [Program.plainKey, hu]) rfl (by simp [Value.formed, hu]) rfl
    · rename_i hu
      cases hk
      generalize (xs.toList.drop off).take [CK.str].length = ch at hc hlen plain agg ⊢
      match ch, vs, hc, hlen with
      | [x], [.str s], hc, _ =>
        simp only [Cs] at hc
        obtain ⟨rfl, _⟩ := hc
        exact plain _ (by simp [Program.plainKey, hu]) rfl (by simp [Value.formed, hu]) rfl
    · rename_i n e' hu
      exact agg (.inl ⟨n, e', hu⟩)
    · rename_i fs hu
      exact agg (.inr ⟨fs, hu⟩)
    · cases hk

def EqK (P : Program) (dd : Nat) (t : TypeId) (ks : List CK) : Prop :=
  ∀ (w : World) (x y : Value) (a b : List V) (r : Bool), x.formed P t = true → y.formed P t = true → Cs ks a x.cells.toList → Cs ks b y.cells.toList → eqCells ks a b = some r → (Op.equalIn dd t x y).run P w = .ok r w

theorem run_step_cs {d dd : Nat} {e : TypeId} {l : List CK} (hk : kindsAt P d e = some l) (hl : l.length = P.cellsOf e) (IH : EqK P dd e l) {off : Nat} {xs ys : Array Value} {a b : List V} {r : Bool}
    (ha : Cs l a ((xs.toList.drop off).take l.length)) (hb : Cs l b ((ys.toList.drop off).take l.length)) (h : eqCells l a b = some r) :
    ∃ x y, (part e xs off).run P w = .ok x w ∧ (part e ys off).run P w = .ok y w ∧ (Op.equalIn dd e x y).run P w = .ok r w := by
  obtain ⟨x, p1, f1, c1⟩ := run_part_cs w hk hl ha
  obtain ⟨y, p2, f2, c2⟩ := run_part_cs w hk hl hb
  exact ⟨x, y, p1, p2, IH w x y a b r f1 f2 (by rw [c1]; exact ha) (by rw [c2]; exact hb) h⟩

theorem run_eqFields_cs (d dd : Nat) (IH : ∀ t l, kindsAt P d t = some l → EqK P dd t l) (xs ys : Array Value) : ∀ (fs : List Field) (off : Nat) (ks : List CK) (a b : List V) (r : Bool), fieldKinds P (kindsAt P d) fs off = some ks →
    Cs ks a (xs.toList.drop off) → Cs ks b (ys.toList.drop off) → eqCells ks a b = some r → (Op.eqFields dd xs ys fs).run P w = .ok r w
  | [], off, ks, a, b, r, hf, ha, hb, h => by
    simp only [fieldKinds, Option.some.injEq] at hf
    subst hf
    have h1 := ha.len.1
    have h2 := hb.len.1
    obtain rfl : a = [] := List.length_eq_zero_iff.1 (by simpa using h1)
    obtain rfl : b = [] := List.length_eq_zero_iff.1 (by simpa using h2)
    simp only [eqCells, Option.some.injEq] at h
    subst h
    simp [Op.eqFields]
  | g :: fs, off, ks, a, b, r, hf, ha, hb, h => by
    unfold fieldKinds at hf
    split at hf
    · rename_i hg
      split at hf
      · rename_i l hl
        split at hf
        · rename_i hlen
          simp only [Option.map_eq_some_iff] at hf
          obtain ⟨ks', hf', rfl⟩ := hf
          obtain ⟨a1, a2⟩ := ha.split
          obtain ⟨b1, b2⟩ := hb.split
          obtain ⟨r1, r2, e1, e2, rfl⟩ := eqCells_split h
          rw [List.drop_drop] at a2 b2
          obtain ⟨x, y, p1, p2, p3⟩ := run_step_cs w hl hlen (IH _ _ hl) a1 b1 e1
          have hrest := run_eqFields_cs d dd IH xs ys fs (off + l.length) ks' _ _ r2 hf' a2 b2 e2
          simp only [Op.eqFields, hg.1, hg.2, ne_eq, not_false_eq_true, if_true, Sem.run_bind, p1, p2, p3, Result.andThen_ok]
          cases r1
          · simp
          · simpa using hrest
        · cases hf
      · cases hf
    · cases hf

theorem run_eqItems_cs {d dd : Nat} {e : TypeId} {l : List CK} (hk : kindsAt P d e = some l) (hl : l.length = P.cellsOf e) (IH : EqK P dd e l) (xs ys : Array Value) : ∀ (m i0 : Nat) (a b : List V) (r : Bool),
    Cs (List.replicate m l).flatten a (xs.toList.drop (i0 * P.cellsOf e)) → Cs (List.replicate m l).flatten b (ys.toList.drop (i0 * P.cellsOf e)) → eqCells (List.replicate m l).flatten a b = some r →
      (Op.eqItems dd e (P.cellsOf e) xs ys (List.range' i0 m)).run P w = .ok r w
  | 0, i0, a, b, r, ha, hb, h => by
    have h1 := ha.len.1
    have h2 := hb.len.1
    obtain rfl : a = [] := List.length_eq_zero_iff.1 (by simpa using h1)
    obtain rfl : b = [] := List.length_eq_zero_iff.1 (by simpa using h2)
    simp [eqCells] at h
    subst h
    simp [Op.eqItems]
  | m + 1, i0, a, b, r, ha, hb, h => by
    rw [List.replicate_succ, List.flatten_cons] at ha hb h
    obtain ⟨a1, a2⟩ := ha.split
    obtain ⟨b1, b2⟩ := hb.split
    obtain ⟨r1, r2, e1, e2, rfl⟩ := eqCells_split h
    have hoff : i0 * P.cellsOf e + l.length = (i0 + 1) * P.cellsOf e := by rw [hl, Nat.add_mul, Nat.one_mul]
    rw [List.drop_drop, hoff] at a2 b2
    obtain ⟨x, y, p1, p2, p3⟩ := run_step_cs w hk hl IH a1 b1 e1
    have hrest := run_eqItems_cs hk hl IH xs ys m (i0 + 1) _ _ r2 a2 b2 e2
    simp only [List.range'_succ, Op.eqItems, Sem.run_bind, p1, p2, p3, Result.andThen_ok]
    cases r1
    · simp
    · simpa using hrest
end

theorem Cs_bool {a : List V} {xs : List Value} (h : Cs [.bool] a xs) : ∃ p, a = [.bool p] ∧ xs = [.bool p] := by
  have hl := h.len
  match a, xs, hl, h with
  | [.bool p], [x], _, h => simp only [Cs, and_true] at h; exact ⟨p, rfl, by rw [h]⟩
theorem Cs_int {k : IntKind} {a : List V} {xs : List Value} (h : Cs [.int k] a xs) : ∃ n, a = [.int k n] ∧ xs = [.int k n] := by
  have hl := h.len
  match a, xs, hl, h with
  | [.int k' n], [x], _, h =>
    simp only [Cs, and_true] at h
    obtain ⟨rfl, h⟩ := h
    exact ⟨n, rfl, by rw [h]⟩
theorem Cs_str {a : List V} {xs : List Value} (h : Cs [.str] a xs) : ∃ s, a = [.str s] ∧ xs = [.string ⟨s.toArray⟩] := by
  have hl := h.len
  match a, xs, hl, h with
  | [.str s], [x], _, h => simp only [Cs, and_true] at h; exact ⟨s, rfl, by rw [h]⟩

theorem eqa_cell {P : Program} {t : TypeId} {x : Value} (hf : x.formed P t = true) (hu : P.underlying t = some .bool ∨ (∃ k, P.underlying t = some (.int k)) ∨ P.underlying t = some .string) : x.cells.toList = [x] := by
  cases x <;> try rfl
  rcases hu with hu | ⟨k, hu⟩ | hu <;> simp [Value.formed, hu] at hf

theorem eqa_bytes (a b : List UInt8) : ((⟨a.toArray⟩ : ByteArray).toList == (⟨b.toArray⟩ : ByteArray).toList) = decide (a = b) := by
  rw [ByteArray.toList_eq, ByteArray.toList_eq, Bool.eq_iff_iff]
  simp

theorem run_equalIn_cs {P : Program} (dd : Nat) : ∀ (d : Nat) (t : TypeId) (ks : List CK), kindsAt P d t = some ks → EqK P (dd + d) t ks
  | 0, _, _, h => by simp [kindsAt] at h
  | d + 1, t, ks, hk => by
    intro w x y a b r fx fy ha hb h
    unfold kindsAt at hk
    split at hk
    · rename_i hu
      cases hk
      rw [eqa_cell fx (.inl hu)] at ha
      rw [eqa_cell fy (.inl hu)] at hb
      obtain ⟨p, rfl, hx⟩ := Cs_bool ha
      obtain ⟨q, rfl, hy⟩ := Cs_bool hb
      obtain rfl := (List.cons.inj hx).1
      obtain rfl := (List.cons.inj hy).1
      simp only [eqCells, Option.map_some, Option.some.injEq, Bool.and_true] at h
      rw [show dd + (d + 1) = (dd + d) + 1 from rfl, run_equalIn_bool' w (dd + d) t _ _ hu, ← h]
      congr 1
    · rename_i k hu
      cases hk
      rw [eqa_cell fx (.inr (.inl ⟨k, hu⟩))] at ha
      rw [eqa_cell fy (.inr (.inl ⟨k, hu⟩))] at hb
      obtain ⟨p, rfl, hx⟩ := Cs_int ha
      obtain ⟨q, rfl, hy⟩ := Cs_int hb
      obtain rfl := (List.cons.inj hx).1
      obtain rfl := (List.cons.inj hy).1
      simp only [eqCells, and_self, if_true, Option.map_some, Option.some.injEq, Bool.and_true] at h
      rw [show dd + (d + 1) = (dd + d) + 1 from rfl, run_equalIn_int w (dd + d) t _ _ _ _ hu, ← h]
      congr 1
    · rename_i hu
      cases hk
      rw [eqa_cell fx (.inr (.inr hu))] at ha
      rw [eqa_cell fy (.inr (.inr hu))] at hb
      obtain ⟨p, rfl, hx⟩ := Cs_str ha
      obtain ⟨q, rfl, hy⟩ := Cs_str hb
      obtain rfl := (List.cons.inj hx).1
      obtain rfl := (List.cons.inj hy).1
      simp only [eqCells, Option.map_some, Option.some.injEq, Bool.and_true] at h
      rw [show dd + (d + 1) = (dd + d) + 1 from rfl, run_equalIn_string w (dd + d) t _ _ hu, ← h, eqa_bytes]
    · rename_i n e hu
      split at hk
      · rename_i l hl
        split at hk
        · rename_i hlen
          cases hk
          cases x <;> simp only [Value.formed, hu, Bool.false_eq_true] at fx
          cases y <;> simp only [Value.formed, hu, Bool.false_eq_true] at fy
          rename_i xs ys
          have hi : ∃ i, P.info? e = some i := by
            cases d with
            | zero => simp [kindsAt] at hl
            | succ d' =>
              unfold kindsAt at hl
              cases hue : P.underlying e with
              | none => simp [hue] at hl
              | some _ => exact info_of_underlying hue
          obtain ⟨i, hi⟩ := hi
          have := run_eqItems_cs w hl hlen (run_equalIn_cs dd d e l hl) xs ys n 0 a b r (by simpa [Value.cells] using ha) (by simpa [Value.cells] using hb) h
          rw [show dd + (d + 1) = (dd + d) + 1 from rfl, run_equalIn_array w (dd + d) xs ys hu hi, List.range_eq_range']
          exact this
        · cases hk
      · cases hk
    · rename_i fs hu
      split at hk
      · cases hk
      · rename_i hst
        cases x <;> simp only [Value.formed, hu, Bool.false_eq_true] at fx
        cases y <;> simp only [Value.formed, hu, Bool.false_eq_true] at fy
        rename_i xs ys
        have hfs : P.fieldsOf t = fs := by simp [Program.fieldsOf, hu]
        have := run_eqFields_cs w d (dd + d) (fun t l hl => run_equalIn_cs dd d t l hl) xs ys fs.toList 0 ks a b r hk (by simpa [Value.cells] using ha) (by simpa [Value.cells] using hb) h
        rw [show dd + (d + 1) = (dd + d) + 1 from rfl, run_equalIn_struct w (dd + d) t xs ys (by rw [hfs]; exact hu) (by simpa using hst), hfs]
        exact this
    · cases hk

/-- From the evaluator's cells to the program's. -/
theorem Cs_of {w : World} {F : Nat → Nat → Prop} {ι : Places} : ∀ (ks : List CK) (a b : List V) (r : Bool) (xs ys : List Value), eqCells ks a b = some r → xs.length = a.length → ys.length = b.length →
    (∀ (j : Nat) v x, a[j]? = some v → xs[j]? = some x → R w F ι v x) → (∀ (j : Nat) v x, b[j]? = some v → ys[j]? = some x → R w F ι v x) → Cs ks a xs ∧ Cs ks b ys
  | [], a, b, r, xs, ys, h, h1, h2, _, _ => by
    cases a <;> cases b <;> simp [eqCells] at h
    obtain rfl := List.length_eq_zero_iff.1 h1
    obtain rfl := List.length_eq_zero_iff.1 h2
    exact ⟨trivial, trivial⟩
  | k :: ks, [], b, r, xs, ys, h, _, _, _, _ => by cases k <;> simp [eqCells] at h
  | k :: ks, v :: a, [], r, xs, ys, h, _, _, _, _ => by cases k <;> cases v <;> simp [eqCells] at h
  | k :: ks, v :: a, u :: b, r, [], ys, h, h1, _, _, _ => by simp at h1
  | k :: ks, v :: a, u :: b, r, x :: xs, [], h, _, h2, _, _ => by simp at h2
  | k :: ks, v :: a, u :: b, r, x :: xs, y :: ys, h, h1, h2, ha, hb => by
    have hx := ha 0 v x rfl rfl
    have hy := hb 0 u y rfl rfl
    have ha' : ∀ (j : Nat) v x, a[j]? = some v → xs[j]? = some x → R w F ι v x := fun j v x e1 e2 => ha (j + 1) v x e1 e2
    have hb' : ∀ (j : Nat) v x, b[j]? = some v → ys[j]? = some x → R w F ι v x := fun j v x e1 e2 => hb (j + 1) v x e1 e2
    have l1 : xs.length = a.length := by simpa using h1
    have l2 : ys.length = b.length := by simpa using h2
    cases k <;> cases v <;> cases u <;> simp only [eqCells] at h <;> first | (cases h; done) | skip
    · simp only [Option.map_eq_some_iff] at h
      obtain ⟨r', h', _⟩ := h
      obtain ⟨c1, c2⟩ := Cs_of ks a b r' xs ys h' l1 l2 ha' hb'
      exact ⟨⟨hx.bool_inv, c1⟩, ⟨hy.bool_inv, c2⟩⟩
    · split at h
      · rename_i hk
        simp only [Option.map_eq_some_iff] at h
        obtain ⟨r', h', _⟩ := h
        obtain ⟨c1, c2⟩ := Cs_of ks a b r' xs ys h' l1 l2 ha' hb'
        obtain ⟨rfl, rfl⟩ := hk
        exact ⟨⟨rfl, hx.int_inv, c1⟩, ⟨rfl, hy.int_inv, c2⟩⟩
      · cases h
    · simp only [Option.map_eq_some_iff] at h
      obtain ⟨r', h', _⟩ := h
      obtain ⟨c1, c2⟩ := Cs_of ks a b r' xs ys h' l1 l2 ha' hb'
      exact ⟨⟨hx.str_inv, c1⟩, ⟨hy.str_inv, c2⟩⟩

/-- Is a type a struct or an array of plain parts, of these kinds? -/
def eqaIs (P : Program) (t : TypeId) (ks : List CK) : Bool :=
  (match P.underlying t with | some (.struct _) | some (.array ..) => true | _ => false) && (kindsAt P 30 t == some ks) && decide (ks.length = P.cellsOf t) && !P.eqGuardType P.depth t

section
variable {P : Program} {E : LblP} {nt : Cx} {φ : Fr} {H : Heap} {ρ : Own} {ι : Places} {a : Act} {w : World} {o : Oper}

theorem eqa_ok (s : StA E nt φ H ρ ι a w [] []) {X Y : Operand} {x y : AX} (hx : chkX X x = true) (hy : chkX Y y = true) {neg : Bool} {ks : List CK} {t u : TypeId} (ho : o.op = .binOp (if neg then .neq else .eql) t X Y u) (ht : eqaIs P t ks = true) {m n : List V} {r : Bool}
    (h1 : rd φ x = .agg m) (h2 : rd φ y = .agg n) (h : eqCells ks m n = some r) : Runs P o a w (After E nt φ H (.bool (if neg then !r else r)) ρ ι a w) := by
  obtain ⟨xs, e1, s1, r1⟩ := (h1 ▸ rd_ok s hx).agg_inv
  obtain ⟨ys, e2, s2, r2⟩ := (h2 ▸ rd_ok s hy).agg_inv
  unfold eqaIs at ht
  simp only [Bool.and_eq_true, beq_iff_eq, decide_eq_true_eq, Bool.not_eq_true'] at ht
  obtain ⟨⟨⟨hagg, hk⟩, hlen⟩, hg⟩ := ht
  obtain ⟨c1, c2⟩ := Cs_of ks m n r xs.toList ys.toList h (by simpa using s1) (by simpa using s2) (fun j v x ha hb => r1 j v x ha (by rw [← Array.getElem?_toList]; exact hb)) (fun j v x ha hb => r2 j v x ha (by rw [← Array.getElem?_toList]; exact hb))
  have f1 : (Value.agg xs).formed P t = true := by
    have := c1.len.2
    unfold Value.formed
    split at hagg <;> rename_i hu <;> first | (cases hagg; done) | skip
    all_goals simp only [hu, beq_iff_eq]
    all_goals (rw [← hlen, ← this]; simp)
  have f2 : (Value.agg ys).formed P t = true := by
    have := c2.len.2
    unfold Value.formed
    split at hagg <;> rename_i hu <;> first | (cases hagg; done) | skip
    all_goals simp only [hu, beq_iff_eq]
    all_goals (rw [← hlen, ← this]; simp)
  have he := run_equalIn_cs (P := P) 9970 30 t ks hk w (.agg xs) (.agg ys) m n r f1 f2 (by simpa [Value.cells] using c1) (by simpa [Value.cells] using c2) h
  refine .value _ ?_ (.same s bool_same)
  cases neg <;> simp [execOp, ho, e1, e2, run_eqGuard_agg, hg, run_eql_struct, run_neq_struct, he]
end

end Go.AM
