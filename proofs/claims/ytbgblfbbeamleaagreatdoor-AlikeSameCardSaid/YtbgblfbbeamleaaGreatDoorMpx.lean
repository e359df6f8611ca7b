/-
  Maps: what the model's runs do with them, as the evaluator takes it.
-/
import Derived.Test.YtbgblfbbeamleaaGreatDoorEqa
import Derived.Test.YtbgblfbbeamleaaGreatDoorOpM
import Derived.Carry
import Derived.WideKeyRuns
namespace Go.AM
open Go.MapKept
set_option linter.unusedVariables false
set_option linter.unusedSimpArgs false

theorem Cs.eq_some : ∀ {ks : List CK} {a b : List V} {xs ys : List Value}, Cs ks a xs → Cs ks b ys → ∃ r, eqCells ks a b = some r ∧ (r = true → xs = ys)
  | [], a, b, xs, ys, ha, hb => by
    have h1 := ha.len
    have h2 := hb.len
    obtain rfl : a = [] := List.length_eq_zero_iff.1 (by simpa using h1.1)
    obtain rfl : b = [] := List.length_eq_zero_iff.1 (by simpa using h2.1)
    obtain rfl : xs = [] := List.length_eq_zero_iff.1 (by simpa using h1.2)
    obtain rfl : ys = [] := List.length_eq_zero_iff.1 (by simpa using h2.2)
    exact ⟨true, rfl, fun _ => rfl⟩
  | k :: ks, [], _, _, _, ha, _ => by cases k <;> simp [Cs] at ha
  | k :: ks, v :: a, _, [], _, ha, _ => by cases k <;> cases v <;> simp [Cs] at ha
  | k :: ks, v :: a, [], _, _, _, hb => by cases k <;> simp [Cs] at hb
  | k :: ks, v :: a, u :: b, _, [], _, hb => by cases k <;> cases u <;> simp [Cs] at hb
  | k :: ks, v :: a, u :: b, x :: xs, y :: ys, ha, hb => by
    cases k <;> cases v <;> simp only [Cs] at ha <;> first | exact ha.elim | skip
    all_goals (cases u <;> simp only [Cs] at hb <;> first | exact hb.elim | skip)
    · obtain ⟨r, h1, h2⟩ := Cs.eq_some ha.2 hb.2
      refine ⟨_, by simp only [eqCells, h1, Option.map_some]; rfl, fun h => ?_⟩
      simp only [Bool.and_eq_true, decide_eq_true_eq] at h
      rw [ha.1, hb.1, h.1, h2 h.2]
    · obtain ⟨r, h1, h2⟩ := Cs.eq_some ha.2.2 hb.2.2
      refine ⟨_, by simp only [eqCells, h1, Option.map_some, ha.1, hb.1, and_self, if_true]; rfl, fun h => ?_⟩
      simp only [Bool.and_eq_true, decide_eq_true_eq] at h
      rw [ha.2.1, hb.2.1, h.1, h2 h.2]
    · obtain ⟨r, h1, h2⟩ := Cs.eq_some ha.2 hb.2
      refine ⟨_, by simp only [eqCells, h1, Option.map_some]; rfl, fun h => ?_⟩
      simp only [Bool.and_eq_true, decide_eq_true_eq] at h
      rw [ha.1, hb.1, h.1, h2 h.2]

theorem Cs_self {w : World} {F : Nat → Nat → Prop} {ι : Places} {ks : List CK} {a : List V} {xs : List Value} (h : keyWell ks a = true) (hl : xs.length = a.length)
    (hr : ∀ (j : Nat) v x, a[j]? = some v → xs[j]? = some x → R w F ι v x) : Cs ks a xs := by
  unfold keyWell at h
  obtain ⟨r, h1⟩ := Option.isSome_iff_exists.1 h
  exact (Cs_of ks a a r xs xs h1 hl hl hr hr).1

/-- The value is of a key's form. -/
def keyForm (P : Program) (t : TypeId) (ag : Bool) : Bool := match P.underlying t with
  | some (.struct _) | some (.array ..) => ag
  | some .bool | some (.int _) | some .string => !ag
  | _ => false

def mapIs (P : Program) (t : TypeId) (ag : Bool) (kinds : List CK) : Bool := match P.underlying t with
  | some (.map kt _) => keyForm P kt ag && (kindsAt P 30 kt == some kinds) && decide (kinds.length = P.cellsOf kt)
  | _ => false

theorem key_formed {P : Program} {t : TypeId} {ag : Bool} {kinds : List CK} {k : List V} {x : Value} (hf : keyForm P t ag = true) (hl : kinds.length = P.cellsOf t) (hx : isAggV x = ag) (hc : Cs kinds k x.cells.toList) : x.formed P t = true := by
  have h1 := hc.len.2
  unfold keyForm at hf
  unfold Value.formed
  split at hf <;> rename_i hu <;> first | (cases hf; done) | skip
  all_goals (subst hx; cases x <;> simp only [isAggV, Bool.not_true, Bool.not_false, Bool.false_eq_true] at hf <;> simp only [hu] <;> first | rfl | skip)
  all_goals first
    | (rw [← hl, ← h1]; simp [Value.cells]; done)
    | (exfalso
       simp only [Value.cells] at hc
       cases kinds with
       | nil => have := hc.len.2; simp at this
       | cons q ks =>
         cases k with
         | nil => cases q <;> simp [Cs] at hc
         | cons v a => cases q <;> cases v <;> simp [Cs] at hc)

theorem Cs.part : ∀ {m : Nat} {l : List CK} {a : List V} {xs : List Value}, Cs (List.replicate m l).flatten a xs → ∀ j, j < m → ∃ b, Cs l b ((xs.drop (j * l.length)).take l.length)
  | 0, _, _, _, _, j, hj => by omega
  | m + 1, l, a, xs, h, j, hj => by
    rw [List.replicate_succ, List.flatten_cons] at h
    obtain ⟨h1, h2⟩ := h.split
    cases j with
    | zero => exact ⟨_, by simpa using h1⟩
    | succ j =>
      obtain ⟨b, hb⟩ := h2.part j (by omega)
      rw [List.drop_drop] at hb
      exact ⟨b, by rw [Nat.add_mul, Nat.one_mul, Nat.add_comm]; exact hb⟩

theorem fields_part {P : Program} {f : TypeId → Option (List CK)} : ∀ {fs : List Field} {off : Nat} {ks : List CK} {a : List V} {xs : List Value}, fieldKinds P f fs off = some ks → Cs ks a (xs.drop off) →
    ∀ g ∈ fs, g.name ≠ "_" ∧ ∃ l b, f g.type = some l ∧ l.length = P.cellsOf g.type ∧ Cs l b ((xs.drop g.offset).take l.length)
  | [], _, _, _, _, _, _, g, hg => by cases hg
  | g :: fs, off, ks, a, xs, hf, hc, g', hg' => by
    unfold fieldKinds at hf
    split at hf
    · rename_i hg
      split at hf
      · rename_i l hl
        split at hf
        · rename_i hlen
          simp only [Option.map_eq_some_iff] at hf
          obtain ⟨ks', hf', rfl⟩ := hf
          obtain ⟨h1, h2⟩ := hc.split
          rw [List.drop_drop] at h2
          rcases List.mem_cons.1 hg' with rfl | hm
          · exact ⟨hg.1, l, _, hl, hlen, by rw [hg.2]; exact h1⟩
          · exact fields_part hf' h2 g' hm
        · cases hf
      · cases hf
    · cases hf

section
variable {P : Program} (w : World)

theorem run_check_cs (em : Bool) : ∀ (d : Nat) (t : TypeId) (ks : List CK), kindsAt P d t = some ks → ∀ (dd : Nat) (x : Value) (a : List V), x.formed P t = true → Cs ks a x.cells.toList → (Instr.checkKey em (dd + d) t x).run P w = .ok () w
  | 0, _, _, h => by simp [kindsAt] at h
  | d + 1, t, ks, hk => by
    intro dd x a fx hc
    show (Instr.checkKey em ((dd + d) + 1) t x).run P w = .ok () w
    unfold kindsAt at hk
    split at hk
    · rename_i hu
      simp [Instr.checkKey, run_underlying hu]
    · rename_i k hu
      simp [Instr.checkKey, run_underlying hu]
    · rename_i hu
      simp [Instr.checkKey, run_underlying hu]
    · rename_i n e hu
      split at hk
      · rename_i l hl
        split at hk
        · rename_i hlen
          cases hk
          cases x <;> simp only [Value.formed, hu, Bool.false_eq_true] at fx
          rename_i xs
          have hi : ∃ i, P.info? e = some i := by
            cases d with
            | zero => simp [kindsAt] at hl
            | succ d' =>
              unfold kindsAt at hl
              cases hue : P.underlying e with
              | none => simp [hue] at hl
              | some _ => exact info_of_underlying hue
          obtain ⟨i, hi⟩ := hi
          have hsz := run_sizeOf (P := P) w hi
          simp only [Value.cells] at hc
          have each : ∀ j ∈ List.range' 0 n, ∃ b, Cs l b ((xs.toList.drop (j * P.cellsOf e)).take l.length) := fun j hj => by
            obtain ⟨b, hb⟩ := hc.part j (by simp at hj; exact hj)
            exact ⟨b, by rw [← hlen]; exact hb⟩
          rw [Instr.checkKey]
          simp only [Sem.run_bind, run_underlying hu, Result.andThen_ok]
          simp only [Std.Legacy.Range.forIn_eq_forIn_range', Std.Legacy.Range.size, Nat.sub_zero, Nat.add_one_sub_one, Nat.div_one]
          clear hc
          generalize List.range' 0 n = is at each
          induction is with
          | nil => simp
          | cons j is ih =>
            obtain ⟨b, hb⟩ := each j (by simp)
            obtain ⟨y, p1, p2, p3⟩ := run_part_cs w hl hlen hb
            have h1 := run_check_cs em d e l hl dd y _ p2 (by rw [p3]; exact hb)
            simp only [List.forIn_cons, Sem.run_bind, hsz, Result.andThen_ok, p1, h1, Sem.run_pure]
            exact ih (fun y hy => each y (by simp [hy]))
        · cases hk
      · cases hk
    · rename_i fs hu
      split at hk
      · cases hk
      · cases x <;> simp only [Value.formed, hu, Bool.false_eq_true] at fx
        rename_i xs
        simp only [Value.cells] at hc
        have each := fields_part hk (xs := xs.toList) (by simpa using hc)
        rw [Instr.checkKey]
        simp only [Sem.run_bind, run_underlying hu, Result.andThen_ok]
        rw [← Array.forIn_toList]
        clear hk
        generalize fs.toList = L at each
        induction L with
        | nil => simp
        | cons f L ih =>
          obtain ⟨hn, l, b, hl, hlen, hb⟩ := each f (by simp)
          obtain ⟨y, p1, p2, p3⟩ := run_part_cs w hl hlen hb
          have h1 := run_check_cs em d f.type l hl dd y _ p2 (by rw [p3]; exact hb)
          simp only [List.forIn_cons, Sem.run_bind, hn, ne_eq, not_false_eq_true, if_true, Result.andThen_ok, p1, h1, Sem.run_pure]
          exact ih (fun y hy => each y (by simp [hy]))
    · cases hk

/-- The first of the keys that is the same. -/
theorem run_findAsking_cs {kt : TypeId} {kinds : List CK} (hk : kindsAt P 30 kt = some kinds) {x : Value} {k : List V} (fx : x.formed P kt = true) (hx : Cs kinds k x.cells.toList) :
    ∀ (es : List MapEntry) (ks : List (List V)) (i : Nat), es.length = ks.length → (∀ (j : Nat) (e : MapEntry) (u : List V), es[j]? = some e → ks[j]? = some u → e.key.formed P kt = true ∧ Cs kinds u e.key.cells.toList) →
      (Instr.findAsking kt x es i).run P w = .ok (match keyAt kinds k ks with | some j => (es[j]?).map fun e => (i + j, e.val) | none => none) w
  | [], [], i, _, _ => by simp [Instr.findAsking, keyAt]
  | [], _ :: _, _, h, _ => by simp at h
  | _ :: _, [], _, h, _ => by simp at h
  | e :: es, u :: ks, i, hl, h => by
    obtain ⟨f1, c1⟩ := h 0 e u rfl rfl
    obtain ⟨r, hr, _⟩ := hx.eq_some c1
    have he := run_equalIn_cs (P := P) 9970 30 kt kinds hk w x e.key k u r fx f1 hx c1 hr
    have ih := run_findAsking_cs hk fx hx es ks (i + 1) (by simpa using hl) (fun j e' u' h1 h2 => h (j + 1) e' u' h1 h2)
    cases r
    · simp only [Instr.findAsking, Op.equal, Op.maxDepth, Sem.run_bind, he, Result.andThen_ok, Bool.false_eq_true, if_false, ih]
      congr 1
      unfold keyAt
      simp only [List.findIdx?_cons, hr, Option.some.injEq, Bool.false_eq_true, decide_false, if_false]
      cases hf : List.findIdx? (fun k' => decide (eqCells kinds k k' = some true)) ks with
      | none => simp
      | some j =>
        simp only [Option.map_some, List.getElem?_cons_succ]
        cases es[j]? with
        | none => rfl
        | some y => simp; omega
    · simp only [Instr.findAsking, Op.equal, Op.maxDepth, Sem.run_bind, he, Result.andThen_ok, if_true, Sem.run_pure]
      congr 1
      simp [keyAt, List.findIdx?_cons, hr]

/-- Of keys of one cell the model's short way answers the same. -/
theorem findNow_cs {kd : TypeDesc} {kt : TypeId} {kinds : List CK} (hu : P.underlying kt = some kd) (hk : kindsAt P 30 kt = some kinds) (hp : (∃ q, kd = .int q) ∨ kd = .string ∨ kd = .bool) {x : Value} {k : List V} (fx : x.formed P kt = true) (hx : Cs kinds k x.cells.toList) :
    ∀ (es : List MapEntry) (ks : List (List V)) (i : Nat), es.length = ks.length → (∀ (j : Nat) (e : MapEntry) (u : List V), es[j]? = some e → ks[j]? = some u → e.key.formed P kt = true ∧ Cs kinds u e.key.cells.toList) →
      Instr.findNow kd x es i = some (match keyAt kinds k ks with | some j => (es[j]?).map fun e => (i + j, e.val) | none => none)
  | [], [], i, _, _ => by simp [Instr.findNow, keyAt]
  | [], _ :: _, _, h, _ => by simp at h
  | _ :: _, [], _, h, _ => by simp at h
  | e :: es, u :: ks, i, hl, h => by
    obtain ⟨f1, c1⟩ := h 0 e u rfl rfl
    obtain ⟨r, hr, _⟩ := hx.eq_some c1
    have ih := findNow_cs hu hk hp fx hx es ks (i + 1) (by simpa using hl) (fun j e' u' h1 h2 => h (j + 1) e' u' h1 h2)
    have hs : Instr.sameNow kd x e.key = some r := by
      unfold kindsAt at hk
      rw [hu] at hk
      rcases hp with ⟨q, rfl⟩ | rfl | rfl
      · cases hk
        rw [eqa_cell fx (.inr (.inl ⟨q, hu⟩))] at hx
        rw [eqa_cell f1 (.inr (.inl ⟨q, hu⟩))] at c1
        obtain ⟨m, rfl, h1⟩ := Cs_int hx
        obtain ⟨n, rfl, h2⟩ := Cs_int c1
        rw [(List.cons.inj h1).1, (List.cons.inj h2).1]
        simp only [eqCells, and_self, if_true, Option.map_some, Option.some.injEq, Bool.and_true] at hr
        simp only [Instr.sameNow, if_true, ← hr]
        congr 1
      · cases hk
        rw [eqa_cell fx (.inr (.inr hu))] at hx
        rw [eqa_cell f1 (.inr (.inr hu))] at c1
        obtain ⟨m, rfl, h1⟩ := Cs_str hx
        obtain ⟨n, rfl, h2⟩ := Cs_str c1
        rw [(List.cons.inj h1).1, (List.cons.inj h2).1]
        simp only [eqCells, Option.map_some, Option.some.injEq, Bool.and_true] at hr
        simp only [Instr.sameNow, ← hr, Option.some.injEq]
        rw [Bool.eq_iff_iff, bytes_beq]
        simp
      · cases hk
        rw [eqa_cell fx (.inl hu)] at hx
        rw [eqa_cell f1 (.inl hu)] at c1
        obtain ⟨m, rfl, h1⟩ := Cs_bool hx
        obtain ⟨n, rfl, h2⟩ := Cs_bool c1
        rw [(List.cons.inj h1).1, (List.cons.inj h2).1]
        simp only [eqCells, Option.map_some, Option.some.injEq, Bool.and_true] at hr
        simp only [Instr.sameNow, ← hr, Option.some.injEq]
        congr 1
    cases r
    · simp only [Instr.findNow, hs, ih]
      congr 1
      unfold keyAt
      simp only [List.findIdx?_cons, hr, Option.some.injEq, Bool.false_eq_true, decide_false, if_false]
      cases hf : List.findIdx? (fun k' => decide (eqCells kinds k k' = some true)) ks with
      | none => simp
      | some j =>
        simp only [Option.map_some, List.getElem?_cons_succ]
        cases es[j]? with
        | none => rfl
        | some y => simp; omega
    · simp [Instr.findNow, hs, keyAt, List.findIdx?_cons, hr]

theorem run_findKey_cs {kt : TypeId} {ag : Bool} {kinds : List CK} (hf : keyForm P kt ag = true) (hk : kindsAt P 30 kt = some kinds) {x : Value} {k : List V} (fx : x.formed P kt = true) (hx : Cs kinds k x.cells.toList)
    (es : List MapEntry) (ks : List (List V)) (hl : es.length = ks.length) (h : ∀ (j : Nat) (e : MapEntry) (u : List V), es[j]? = some e → ks[j]? = some u → e.key.formed P kt = true ∧ Cs kinds u e.key.cells.toList) :
      (Instr.findKey kt x es).run P w = .ok (match keyAt kinds k ks with | some j => (es[j]?).map fun e => (j, e.val) | none => none) w := by
  have h0 := run_findAsking_cs w hk fx hx es ks 0 hl h
  simp only [Nat.zero_add] at h0
  unfold keyForm at hf
  split at hf <;> rename_i hu <;> first | (cases hf; done) | skip
  · rw [run_findKey_eq w (by rw [hu]), h0]
  · rw [run_findKey_eq w (by rw [hu]), h0]
  · have := findNow_cs hu hk (.inr (.inr rfl)) fx hx es ks 0 hl h
    simp only [Nat.zero_add] at this
    exact run_findKey hu this
  · have := findNow_cs hu hk (.inl ⟨_, rfl⟩) fx hx es ks 0 hl h
    simp only [Nat.zero_add] at this
    exact run_findKey hu this
  · have := findNow_cs hu hk (.inr (.inl rfl)) fx hx es ks 0 hl h
    simp only [Nat.zero_add] at this
    exact run_findKey hu this

theorem sameBits_cs : ∀ {ks : List CK} {a : List V} {xs : List Value} (n : Nat), Cs ks a xs → (xs.zip xs).all (fun p => Instr.sameBits n p.1 p.2) = true
  | [], a, xs, n, h => by
    obtain rfl : xs = [] := List.length_eq_zero_iff.1 (by simpa using h.len.2)
    rfl
  | k :: ks, [], _, _, h => by cases k <;> simp [Cs] at h
  | k :: ks, v :: a, [], _, h => by cases k <;> cases v <;> simp [Cs] at h
  | k :: ks, v :: a, x :: xs, n, h => by
    cases k <;> cases v <;> simp only [Cs] at h <;> first | exact h.elim | skip
    · have ih := sameBits_cs n h.2
      rw [h.1]
      simp only [List.zip_cons_cons, List.all_cons, ih, Bool.and_true]
      cases n <;> simp [Instr.sameBits]
    · have ih := sameBits_cs n h.2.2
      rw [h.2.1]
      simp only [List.zip_cons_cons, List.all_cons, ih, Bool.and_true]
      cases n <;> simp [Instr.sameBits]
    · have ih := sameBits_cs n h.2
      rw [h.1]
      simp only [List.zip_cons_cons, List.all_cons, ih, Bool.and_true]
      cases n <;> simp [Instr.sameBits, bytes_beq]

theorem run_stays_cs {ks : List CK} {a : List V} {x : Value} (h : Cs ks a x.cells.toList) : (Instr.keyThatStays x x).run P w = .ok x w := by
  have hs : Instr.sameBits 10000 x x = true := by
    have h2 := sameBits_cs 9999 h
    have one : ∀ x : Value, x.cells = #[x] → (x.cells.toList.zip x.cells.toList).all (fun p => Instr.sameBits 9999 p.1 p.2) = true → Instr.sameBits 9999 x x = true := by
      intro x hx hh
      rw [hx] at hh
      simpa using hh
    cases x with
    | agg xs =>
      show Instr.sameBits (9999 + 1) (.agg xs) (.agg xs) = true
      simp only [Instr.sameBits, beq_self_eq_true, Bool.true_and]
      simpa [Value.cells] using h2
    | bool b => simp [Instr.sameBits]
    | int k n => simp [Instr.sameBits]
    | string s => simp [Instr.sameBits, bytes_beq]
    | _ =>
      exfalso
      simp only [Value.cells] at h
      cases ks with
      | nil => have := h.len.2; simp at this
      | cons k ks =>
        cases a with
        | nil => cases k <;> simp [Cs] at h
        | cons v a => cases k <;> cases v <;> simp [Cs] at h
  simp [Instr.keyThatStays, hs]
end

/-- A key's cells stand for the value's. -/
theorem keyOf_cs {w : World} {F : Nat → Nat → Prop} {ι : Places} {P : Program} {kt : TypeId} {ag : Bool} {kinds : List CK} {v : V} {x : Value} (h : R w F ι v x) (hk : keyWell kinds (keyOf ag v) = true) (hf : keyForm P kt ag = true)
    (hl : kinds.length = P.cellsOf kt) (hd : kindsAt P 30 kt = some kinds) : isAggV x = ag ∧ Cs kinds (keyOf ag v) x.cells.toList := by
  unfold keyOf at hk ⊢
  split at hk
  · rename_i cs
    obtain ⟨xs, rfl, h1, h2⟩ := h.agg_inv
    exact ⟨rfl, Cs_self hk (by simpa [Value.cells] using h1) (fun j v x hv hx => h2 j v x hv (by simpa [Value.cells] using hx))⟩
  · exfalso
    unfold keyWell at hk
    obtain ⟨r, hr⟩ := Option.isSome_iff_exists.1 hk
    cases kinds with
    | nil => simp [eqCells] at hr
    | cons q ks => cases q <;> simp [eqCells] at hr
  · unfold keyWell at hk
    obtain ⟨r, hr⟩ := Option.isSome_iff_exists.1 hk
    cases kinds with
    | nil => simp [eqCells] at hr
    | cons q ks =>
      have one : ∀ y : Value, x = y → y.cells = #[y] → R w F ι v y → isAggV y = false → isAggV x = false ∧ Cs (q :: ks) [v] x.cells.toList := by
        rintro y rfl hc hy hg
        exact ⟨hg, Cs_self (ks := q :: ks) (by unfold keyWell; rw [hr]; rfl) (by simp [hc]) (fun j u z hu hz => by
          rw [hc] at hz
          cases j with
          | zero => simp at hu hz; subst hu; subst hz; exact hy
          | succ j => simp at hu)⟩
      cases q <;> cases v <;> simp only [eqCells, reduceCtorEq] at hr
      · exact one _ h.bool_inv rfl (h.bool_inv ▸ h) rfl
      · exact one _ h.int_inv rfl (h.int_inv ▸ h) rfl
      · exact one _ h.str_inv rfl (h.str_inv ▸ h) rfl

theorem mapIs_inv {P : Program} {t : TypeId} {ag : Bool} {kinds : List CK} (h : mapIs P t ag kinds = true) : ∃ kt et, P.underlying t = some (.map kt et) ∧ keyForm P kt ag = true ∧ kindsAt P 30 kt = some kinds ∧ kinds.length = P.cellsOf kt := by
  unfold mapIs at h
  split at h
  · rename_i kt et hu
    simp only [Bool.and_eq_true, beq_iff_eq, decide_eq_true_eq] at h
    exact ⟨kt, et, hu, h.1.1, h.1.2, h.2⟩
  · cases h

/-- The zero value of a map's elements. -/
def mapZero (P : Program) (t : TypeId) (zero : V) : Bool := match P.underlying t with
  | some (.map _ et) => (match P.info? et with
    | some i => match i.zero with
      | some z => cVal z zero && noOwns [zero]
      | none => false
    | none => false)
  | _ => false

theorem keyAt_lt {kinds : List CK} {k : List V} {ks : List (List V)} {j : Nat} (h : keyAt kinds k ks = some j) : j < ks.length := by
  unfold keyAt at h
  exact (List.findIdx?_eq_some_iff_getElem.1 h).1

theorem keyAt_get {kinds : List CK} {k : List V} {ks : List (List V)} {j : Nat} (h : keyAt kinds k ks = some j) : ∃ u, ks[j]? = some u ∧ eqCells kinds k u = some true := by
  unfold keyAt at h
  obtain ⟨h1, h2, _⟩ := List.findIdx?_eq_some_iff_getElem.1 h
  exact ⟨ks[j], by simp [h1], by simpa using h2⟩

section
variable {P : Program} {E : LblP} {nt : Cx} {φ : Fr} {H : Heap} {ρ : Own} {ι : Places} {a : Act} {w : World} {o : Oper}

/-- What stands for a map's content. -/
theorem mapOf_inv (m : Mem E H ι ρ w) {v : V} {x : Value} (h : R w (foot ρ) ι v x) {ag : Bool} {kinds : List CK} {c : List (List V) × List V} (hc : mapOf H ag kinds v = some c) :
    ∃ es : Array MapEntry, (x = .map none ∧ es = #[] ∨ ∃ i l, v = .mptr i ∧ H[i]? = some (some [.mp ag kinds c.1 c.2]) ∧ ι[i]? = some (.lp l) ∧ x = .map (some l) ∧ w.heap[l]? = some (.map es es.size)) ∧ es.size = c.1.length ∧ es.size = c.2.length ∧
      ∀ (j : Nat) (y : MapEntry), es[j]? = some y → y.born = j ∧ isAggV y.key = ag ∧ (∀ k, c.1[j]? = some k → Cs kinds k y.key.cells.toList) ∧ ∀ v, c.2[j]? = some v → R w (foot ρ) ι v y.val := by
  unfold mapOf at hc
  split at hc
  · cases hc
    exact ⟨#[], .inl ⟨h.nilm_inv, rfl⟩, rfl, rfl, by simp⟩
  · rename_i i
    split at hc
    · rename_i ag' kinds' ks vs hi
      split at hc
      · rename_i hh
        obtain ⟨rfl, rfl⟩ := hh
        cases hc
        obtain ⟨l, hl, rfl⟩ := h.mptr_inv
        obtain ⟨es, h1, h2, h3, h4⟩ := (m.rcd i _ l hi hl).mp.at_
        exact ⟨es, .inr ⟨i, l, rfl, hi, hl, rfl, h1⟩, h2, h3, h4⟩
      · cases hc
    · cases hc
  · cases hc

theorem mlk_ok (s : StA E nt φ H ρ ι a w [] []) {X K : Operand} {x k : AX} (hx : chkX X x = true) (hk : chkX K k = true) {t : TypeId} {ok : Bool} {zero : V} {ag : Bool} {kinds : List CK} (ho : o.op = .lookup t X K ok) (ht : mapIs P t ag kinds = true) (hz : mapZero P t zero = true)
    {c : List (List V) × List V} (hc : mapOf H ag kinds (rd φ x) = some c) (hw : keyWell kinds (keyOf ag (rd φ k)) = true) {r : V} (hr : lookOf ok zero kinds (keyOf ag (rd φ k)) c.1 c.2 = some r) : Runs P o a w (After E nt φ H r ρ ι a w) := by
  obtain ⟨kt, et, hu, hf, hd, hl⟩ := mapIs_inv ht
  have hX := rd_ok s hx
  have hK := rd_ok s hk
  obtain ⟨g1, g2⟩ := keyOf_cs hK hw hf hl hd
  have gf := key_formed hf hl g1 g2
  obtain ⟨es, e0, e1, e2, e3⟩ := mapOf_inv s.mem hX hc
  have hck := run_check_cs (P := P) w es.isEmpty 30 kt kinds hd 9970 (a.eval K) _ gf g2
  have hfk := run_findKey_cs (P := P) w hf hd gf g2 es.toList c.1 (by simpa using e1) (fun j e u h1 h2 => by
    have := e3 j e (by simpa using h1)
    exact ⟨key_formed hf hl this.2.1 (this.2.2.1 u h2), this.2.2.1 u h2⟩)
  obtain ⟨i, z, hi, hz1, hz2, hz3⟩ : ∃ i z, P.info? et = some i ∧ i.zero = some z ∧ cVal z zero = true ∧ noOwns [zero] = true := by
    unfold mapZero at hz
    rw [hu] at hz
    dsimp only at hz
    split at hz
    · rename_i i hi
      split at hz
      · simp only [Bool.and_eq_true] at hz; exact ⟨i, _, hi, ‹_›, hz⟩
      · cases hz
    · cases hz
  have fin : ∀ (y : Value) (u : V) (b : Bool), R w (foot ρ) ι u y → r = (if ok then .tup [u, .bool b] else u) → (Instr.lookup t (a.eval X) (a.eval K) ok).run P w = .ok (if ok then .tuple #[y, .bool b] else y) w → Runs P o a w (After E nt φ H r ρ ι a w) := by
    rintro y u b hR rfl hrun
    refine .value (if ok then .tuple #[y, .bool b] else y) (by simp only [execOp, ho, Sem.run_bind, hrun]; rfl) (.same s ?_)
    cases ok
    · exact hR
    · refine .tup _ _ rfl (fun j v x hv hx => ?_)
      match j with
      | 0 => simp at hv hx; subst hv; subst hx; exact hR
      | 1 => simp at hv hx; subst hv; subst hx; exact bool_same
      | j + 2 => simp at hv
  unfold lookOf at hr
  split at hr
  · rename_i j hj
    simp only [Option.map_eq_some_iff] at hr
    obtain ⟨u, hu1, rfl⟩ := hr
    have hjl := keyAt_lt hj
    have hjs : j < es.size := by omega
    have he : es[j]? = some es[j] := by simp [hjs]
    refine fin es[j].val u true ((e3 j _ he).2.2.2 u hu1) rfl ?_
    rw [hj] at hfk
    simp only [Array.getElem?_toList, he, Option.map_some] at hfk
    rcases e0 with ⟨h0, rfl⟩ | ⟨i, l, _, _, _, h0, h1⟩
    · simp at hjs
    · simp only [h0, Instr.lookup, Sem.run_bind, run_underlying hu, Result.andThen_ok, Go.MapKept.run_getObj_map h1, hck, hfk, Sem.run_pure]
  · rename_i hj
    simp only [Option.some.injEq] at hr
    refine fin z zero false ((RL_other (noOwns_ok hz3 0 zero rfl)).1 (cVal_ok hz2 w (foot ρ) ι)).1 hr.symm ?_
    rw [hj] at hfk
    have hzv : (zeroValue et).run P w = .ok z w := by simp [zeroValue, typeInfo, hi, hz1]
    rcases e0 with ⟨h0, rfl⟩ | ⟨i, l, _, _, _, h0, h1⟩
    · simp only [h0, Instr.lookup, Sem.run_bind, run_underlying hu, Result.andThen_ok, hck, hfk, Sem.run_pure, hzv]
    · simp only [h0, Instr.lookup, Sem.run_bind, run_underlying hu, Result.andThen_ok, Go.MapKept.run_getObj_map h1, hck, hfk, Sem.run_pure, hzv]

/-- A new map. -/
theorem StA.laym (s : StA E nt φ H ρ ι a w [] []) (ag : Bool) (kinds : List CK) :
    StA E nt φ (H ++ [some [.mp ag kinds [] []]]) (ρ.put (.blk H.length) (some (w.heap.size, 0))) (ι ++ [.lp w.heap.size]) a (w.alloc (.map #[] 0)) [] [] ∧
      Goes ρ ι w (ρ.put (.blk H.length) (some (w.heap.size, 0))) (ι ++ [.lp w.heap.size]) (w.alloc (.map #[] 0)) := by
  have hnone : ρ (.blk H.length) = none ∧ ∀ j, ρ (.cell H.length j) = none := s.mem.dead _ (by simp)
  have hinv : ∀ k p, ρ.put (.blk H.length) (some (w.heap.size, 0)) k = some p → (k = .blk H.length ∧ p = (w.heap.size, 0)) ∨ (k ≠ .blk H.length ∧ ρ k = some p) := by
    intro k p h
    by_cases hk : k = .blk H.length
    · subst hk; rw [Own.put_same] at h; exact .inl ⟨rfl, by simpa using h.symm⟩
    · rw [Own.put_other _ _ hk] at h; exact .inr ⟨hk, h⟩
  have hlen := s.mem.len
  have hold : ∀ {b : Nat}, b < w.heap.size → (w.alloc (.map #[] 0)).heap[b]? = w.heap[b]? := fun h => Go.RowKit.Below.heap_alloc _ _ _ h
  have hnewo : (w.alloc (.map #[] 0)).heap[w.heap.size]? = some (.map #[] 0) := (Go.MapKept.heap_alloc w _).1
  have g : Goes ρ ι w (ρ.put (.blk H.length) (some (w.heap.size, 0))) (ι ++ [.lp w.heap.size]) (w.alloc (.map #[] 0)) := by
    refine .of (kp_alloc _ _ _) (fun i p h => ?_) (fun k b n hm h => ?_) (fun _ => Own.put_other _ _ (by simp)) (fun b hb => .of_eq (hold hb))
    · rw [List.getElem?_append_left (get_some h)]; exact h
    · rcases hinv k _ h with ⟨_, h1⟩ | ⟨_, h1⟩
      · simp at h1; exact .inl (by omega)
      · exact .inr ⟨_, n, hm, h1, Nat.le_refl _⟩
  have hnew : (ι ++ [Place.lp w.heap.size])[H.length]? = some (.lp w.heap.size) := by rw [← hlen]; simp
  refine ⟨⟨s.sz, s.df.kp g.kp, fun q => by rw [Own.put_other _ _ (by simp)]; exact (s.sl q).ext g (Own.put_other _ _ (by simp)), rfl, fun j v x hv hx => by simp at hv, fun j hj => by rw [Own.put_other _ _ (by simp)]; exact s.an j (by simp), ⟨by simp [hlen], fun i vs hi hne => ?_, fun i vs l' hi hl' => ?_, fun i hi => ?_, fun i vs j hi hj => ?_, s.mem.glo.ext g, fun N hN => by have := s.mem.lim N hN; simp; omega⟩, ⟨fun q q' b n n' h h' => ?_, fun q b n h => ?_⟩, s.wd⟩, g⟩
  · rcases Nat.lt_trichotomy i H.length with h | h | h
    · rw [List.getElem?_append_left h] at hi
      obtain ⟨b, base, c, t, fr, h1, h2, h3, h4, h5, h6⟩ := s.mem.blk i vs hi (fun l' hl' => hne l' (by rw [List.getElem?_append_left (by omega)]; exact hl'))
      refine ⟨b, base, c, t, fr, g.io _ _ h1, by rw [Own.put_other _ _ (by simp; omega)]; exact h2, by rw [hold (lt_of_obj h3)]; exact h3, h4, fun o h1 h2 => by rw [Marks0.of_eq (hold (lt_of_obj h3))]; exact h5 o h1 h2, fun j v hj => ?_⟩
      obtain ⟨x, hx, hrl, hu⟩ := h6 j v hj
      exact ⟨x, hx, by rw [Own.put_other _ _ (by simp)]; exact hrl.ext g (Own.put_other _ _ (by simp)), hu⟩
    · subst h; exact absurd hnew (hne _)
    · rw [List.getElem?_eq_none (by simp; omega)] at hi; cases hi
  · rcases Nat.lt_trichotomy i H.length with h | h | h
    · rw [List.getElem?_append_left h] at hi
      rw [List.getElem?_append_left (by omega)] at hl'
      exact (s.mem.rcd i vs l' hi hl').ext g (Own.put_other _ _ (by simp; omega)) (fun _ => Own.put_other _ _ (by simp)) (fun _ b n _ hb => hold (s.sep.here _ _ _ hb))
    · subst h
      simp at hi
      subst hi
      rw [hnew] at hl'
      simp only [Option.some.injEq, Place.lp.injEq] at hl'
      subst hl'
      exact .inr (.inr ⟨ag, kinds, [], [], rfl, by simp, fun j => by rw [Own.put_other _ _ (by simp)]; exact hnone.2 j, ⟨#[], hnewo, rfl, rfl, by simp⟩, rfl⟩)
    · rw [List.getElem?_eq_none (by simp; omega)] at hi; cases hi
  · have h1 : i ≠ H.length := by
      rintro rfl
      exact hi [.mp ag kinds [] []] (by simp)
    have h2 := s.mem.dead i (fun ws hw => hi ws (by rw [List.getElem?_append_left (get_some hw)]; exact hw))
    exact ⟨by rw [Own.put_other _ _ (by simp; omega)]; exact h2.1, fun j => by rw [Own.put_other _ _ (by simp)]; exact h2.2 j⟩
  · rw [Own.put_other _ _ (by simp)]
    by_cases h1 : i = H.length
    · subst h1; exact hnone.2 j
    · have : i < H.length := by have := get_some hi; simp at this; omega
      rw [List.getElem?_append_left this] at hi
      exact s.mem.past i vs j hi hj
  · rcases hinv q _ h with ⟨rfl, h1⟩ | ⟨h0, h1⟩ <;> rcases hinv q' _ h' with ⟨rfl, h2⟩ | ⟨h0', h2⟩
    · rfl
    · simp only [Prod.mk.injEq] at h1; have := s.sep.here _ _ _ h2; omega
    · simp only [Prod.mk.injEq] at h2; have := s.sep.here _ _ _ h1; omega
    · exact s.sep.one _ _ _ _ _ h1 h2
  · rcases hinv q _ h with ⟨_, h1⟩ | ⟨_, h1⟩
    · simp only [Prod.mk.injEq] at h1; simp; omega
    · have := s.sep.here _ _ _ h1; simp; omega

theorem mkm_ok (s : StA E nt φ H ρ ι a w [] []) {t : TypeId} {ag : Bool} {kinds : List CK} (ho : o.op = .makeMap t none) :
    Runs P o a w (After E nt φ (H ++ [some [.mp ag kinds [] []]]) (.mptr H.length) ρ ι a w) := by
  obtain ⟨s2, g2⟩ := s.laym ag kinds
  have hmk : (Instr.makeMap t none).run P w = .ok (.map (some w.heap.size)) (w.alloc (.map #[] 0)) := rfl
  refine .value (.map (some w.heap.size)) (w1 := w.alloc (.map #[] 0)) (by simp only [execOp, ho, Sem.run_bind, Option.map_none, hmk, Result.andThen_ok]; rfl) ⟨_, _, s2.value ?_, g2⟩
  rw [← s.mem.len]
  exact .mptr _ _ (by simp)

theorem sep_same {w w' : World} (s : Sep ρ w) (h : w.heap.size ≤ w'.heap.size) : Sep ρ w' := ⟨s.one, fun k b n hk => Nat.lt_of_lt_of_le (s.here k b n hk) h⟩

/-- Another content in a map's place. -/
theorem StA.setm (s : StA E nt φ H ρ ι a w [] []) {i l : Nat} {ag : Bool} {kinds : List CK} {ks ks' : List (List V)} {vs vs' : List V} (hi : H[i]? = some (some [.mp ag kinds ks vs])) (hl : ι[i]? = some (.lp l)) (es' : Array MapEntry)
    (h1 : es'.size = ks'.length) (h2 : es'.size = vs'.length)
    (h3 : ∀ w' : World, (∀ (b o : Nat) y, w.cell? ⟨b, o, none⟩ = some y → ¬ foot ρ b o → w'.cell? ⟨b, o, none⟩ = some y ∧ ¬ foot ρ b o) → (∀ b n, Cap w b n → Cap w' b n) → ∀ (j : Nat) (x : MapEntry), es'[j]? = some x → x.born = j ∧ isAggV x.key = ag ∧ (∀ k, ks'[j]? = some k → Cs kinds k x.key.cells.toList) ∧ ∀ v, vs'[j]? = some v → R w' (foot ρ) ι v x.val)
    (h4 : V.underAll i vs' = true) :
    StA E nt φ (H.set i (some [.mp ag kinds ks' vs'])) ρ ι a { w with heap := w.heap.setIfInBounds l (.map es' es'.size) } [] [] ∧ Goes ρ ι w ρ ι { w with heap := w.heap.setIfInBounds l (.map es' es'.size) } := by
  have hM := (s.mem.rcd i _ l hi hl).mp
  obtain ⟨es, q1, q2, q3, q4⟩ := hM.at_
  have hll := lt_of_obj q1
  have hilt := get_some hi
  generalize hw' : ({ w with heap := w.heap.setIfInBounds l (.map es' es'.size) } : World) = w'
  have hnew : w'.heap[l]? = some (.map es' es'.size) := by rw [← hw']; simp [hll]
  have hoth : ∀ b, b ≠ l → w'.heap[b]? = w.heap[b]? := fun b hb => by rw [← hw']; simp [Ne.symm hb]
  have hsz : w'.heap.size = w.heap.size := by rw [← hw']; simp
  have hmk : ∀ b, Marks0 b w w' := by
    intro b
    by_cases hb : b = l
    · subst hb
      intro o
      unfold World.frozen?
      simp [q1, hnew]
    · exact .of_eq (hoth b hb)
  have g : Goes ρ ι w ρ ι w' := by
    refine .of ⟨by rw [← hw'], by rw [← hw'], by rw [← hw'], by omega, fun b hb => ?_⟩ (fun _ _ h => h) (fun k b n hm hk => .inr ⟨k, n, hm, hk, Nat.le_refl _⟩) (fun _ => rfl) (fun b _ => hmk b)
    by_cases hbl : b = l
    · subst hbl
      rw [q1, hnew]
      exact ⟨_, _, rfl, fun ho => absurd ⟨.blk i, 0, rfl, hM.own, Nat.le_refl _⟩ ho⟩
    · rw [hoth b hbl]; exact .refl _ _
  have hown : ∀ k b n, k ≠ .blk i → ρ k = some (b, n) → w'.heap[b]? = w.heap[b]? := by
    intro k b n h1 hk
    refine hoth b ?_
    rintro rfl
    exact h1 (s.sep.one _ _ _ _ _ hk hM.own)
  refine ⟨s.go g (fun _ => rfl) (fun _ => rfl) ⟨by simp [s.mem.len], fun q us hq hq2 => ?_, fun q us l' hq hl' => ?_, fun q hq => ?_, fun q us j hq hj => ?_, s.mem.glo.ext g, fun N hN => by rw [List.length_set]; exact s.mem.lim N hN⟩ (sep_same s.sep (by omega)), g⟩
  · have hqi : q ≠ i := by rintro rfl; exact hq2 l hl
    rw [List.getElem?_set_ne (by omega)] at hq
    obtain ⟨b, base, c, t, fr, r1, r2, r3, r4, r5, r6⟩ := s.mem.blk q us hq hq2
    have hb := hown _ b base (by simpa using hqi) r2
    refine ⟨b, base, c, t, fr, r1, r2, by rw [hb]; exact r3, r4, fun o o1 o2 => by rw [hmk b]; exact r5 o o1 o2, fun j u hj => ?_⟩
    obtain ⟨y, t1, t2, t3⟩ := r6 j u hj
    exact ⟨y, t1, t2.ext g rfl, t3⟩
  · by_cases hqi : q = i
    · subst hqi
      rw [List.getElem?_set_self hilt] at hq
      simp only [Option.some.injEq] at hq
      subst hq
      rw [hl] at hl'
      simp only [Option.some.injEq, Place.lp.injEq] at hl'
      subst hl'
      exact .inr (.inr ⟨ag, kinds, ks', vs', rfl, hM.own, hM.cel, ⟨es', hnew, h1, h2, h3 w' g.step g.kp.cap⟩, h4⟩)
    · rw [List.getElem?_set_ne (by omega)] at hq
      refine (s.mem.rcd q us l' hq hl').ext g rfl (fun j => rfl) (fun k b n hk hb => hown k b n ?_ hb)
      rcases hk with rfl | ⟨j, rfl⟩ <;> simp [hqi]
  · have hqi : q ≠ i := by
      rintro rfl
      exact hq _ (List.getElem?_set_self hilt)
    exact s.mem.dead q (fun us hu => hq us (by rw [List.getElem?_set_ne (by omega)]; exact hu))
  · by_cases hqi : q = i
    · subst hqi; exact hM.cel j
    · rw [List.getElem?_set_ne (by omega)] at hq
      exact s.mem.past q us j hq hj

theorem underAll_set {m : Nat} {vs : List V} {j : Nat} {v : V} (h : V.underAll m vs = true) (hv : v.under m = true) : V.underAll m (vs.set j v) = true :=
  underAll_iff.2 fun q u hq => by
    rw [List.getElem?_set] at hq
    split at hq
    · split at hq
      · cases hq; exact hv
      · cases hq
    · exact underAll_iff.1 h q u hq

theorem underAll_snoc {m : Nat} {vs : List V} {v : V} (h : V.underAll m vs = true) (hv : v.under m = true) : V.underAll m (vs ++ [v]) = true :=
  underAll_iff.2 fun q u hq => by
    rcases Nat.lt_trichotomy q vs.length with h1 | h1 | h1
    · rw [List.getElem?_append_left h1] at hq; exact underAll_iff.1 h q u hq
    · subst h1; simp at hq; subst hq; exact hv
    · rw [List.getElem?_eq_none (by simp; omega)] at hq; cases hq

theorem mst_ok (s : StA E nt φ H ρ ι a w [] []) {X K Y : Operand} {x k y : AX} (hx : chkX X x = true) (hk : chkX K k = true) (hy : chkX Y y = true) {t : TypeId} {ag : Bool} {kinds : List CK} (ho : o.op = .mapUpdate t X K Y) (ht : mapIs P t ag kinds = true)
    {H' : Heap} (hp : mapPut H ag kinds (rd φ x) (keyOf ag (rd φ k)) (rd φ y) = some H') : Runs P o a w (After E nt φ H' .undef ρ ι a w) := by
  obtain ⟨kt, et, hu, hf, hd, hl⟩ := mapIs_inv ht
  unfold mapPut at hp
  split at hp <;> try cases hp
  rename_i i c hxi hc
  split at hp <;> try cases hp
  rename_i hh
  obtain ⟨hw, hun⟩ := hh
  have hX := rd_ok s hx
  have hK := rd_ok s hk
  have hY := rd_ok s hy
  obtain ⟨g1, g2⟩ := keyOf_cs hK hw hf hl hd
  have gf := key_formed hf hl g1 g2
  obtain ⟨es, e0, e1, e2, e3⟩ := mapOf_inv s.mem hX hc
  rcases e0 with ⟨e0, _⟩ | ⟨i', l, hi0, hi, hli, hX2, hobj⟩
  · rw [hxi] at hX
    obtain ⟨_, _, e9⟩ := hX.mptr_inv
    rw [e0] at e9; cases e9
  rw [hxi] at hi0
  cases hi0
  have hund := (s.mem.rcd i _ l hi hli).mp.und
  have hck := run_check_cs (P := P) w false 30 kt kinds hd 9970 (a.eval K) _ gf g2
  have hfk := run_findKey_cs (P := P) w hf hd gf g2 es.toList c.1 (by simpa using e1) (fun j e u h1 h2 => by
    have := e3 j e (by simpa using h1)
    exact ⟨key_formed hf hl this.2.1 (this.2.2.1 u h2), this.2.2.1 u h2⟩)
  have fin : ∀ es' : Array MapEntry, (Instr.mapUpdate t (a.eval X) (a.eval K) (a.eval Y)).run P w = .ok () { w with heap := w.heap.setIfInBounds l (.map es' es'.size) } →
      es'.size = (mapSt kinds (keyOf ag (rd φ k)) (rd φ y) c.1 c.2).1.length → es'.size = (mapSt kinds (keyOf ag (rd φ k)) (rd φ y) c.1 c.2).2.length →
      (∀ w' : World, (∀ (b o : Nat) y, w.cell? ⟨b, o, none⟩ = some y → ¬ foot ρ b o → w'.cell? ⟨b, o, none⟩ = some y ∧ ¬ foot ρ b o) → (∀ b n, Cap w b n → Cap w' b n) → ∀ (j : Nat) (x : MapEntry), es'[j]? = some x → x.born = j ∧ isAggV x.key = ag ∧
        (∀ u, (mapSt kinds (keyOf ag (rd φ k)) (rd φ y) c.1 c.2).1[j]? = some u → Cs kinds u x.key.cells.toList) ∧ ∀ v, (mapSt kinds (keyOf ag (rd φ k)) (rd φ y) c.1 c.2).2[j]? = some v → R w' (foot ρ) ι v x.val) →
      V.underAll i (mapSt kinds (keyOf ag (rd φ k)) (rd φ y) c.1 c.2).2 = true → Runs P o a w (After E nt φ (H.set i (some [.mp ag kinds (mapSt kinds (keyOf ag (rd φ k)) (rd φ y) c.1 c.2).1 (mapSt kinds (keyOf ag (rd φ k)) (rd φ y) c.1 c.2).2])) .undef ρ ι a w) := by
    intro es' hrun h1 h2 h3 h4
    obtain ⟨s2, g⟩ := s.setm hi hli es' h1 h2 h3 h4
    exact .inr (.inl ⟨_, by simp only [execOp, ho, Sem.run_bind, hrun, Result.andThen_ok]; rfl, ρ, ι, s2.value (.undef _), g⟩)
  cases hj : keyAt kinds (keyOf ag (rd φ k)) c.1 with
  | some j =>
    have hjl := keyAt_lt hj
    have hjs : j < es.size := by omega
    have he : es[j]? = some es[j] := by simp [hjs]
    obtain ⟨u, hu1, hu2⟩ := keyAt_get hj
    have q := e3 j _ he
    have hborn : es[j].born = j := q.1
    -- the key that stood there is the same
    have hkey : es[j].key = a.eval K := by
      obtain ⟨r, r1, r2⟩ := g2.eq_some (q.2.2.1 u hu1)
      rw [hu2] at r1
      have r3 := r2 (by simpa using r1.symm)
      have q2 := q.2.1
      generalize es[j].key = z at r3 q2
      generalize a.eval K = y' at r3 g1
      rw [← q2] at g1
      cases z <;> cases y' <;> simp only [isAggV, reduceCtorEq] at g1 <;> simp only [Value.cells] at r3 <;> first
        | (have := (List.cons.inj r3).1; exact this.symm)
        | (congr 1 <;> exact (Array.toList_inj.1 r3).symm)
    rw [hj] at hfk
    simp only [Array.getElem?_toList, he, Option.map_some] at hfk
    have hm : mapSt kinds (keyOf ag (rd φ k)) (rd φ y) c.1 c.2 = (c.1, c.2.set j (rd φ y)) := by simp only [mapSt, hj]
    have hmod : ∀ q, (es.modify j fun e => { e with key := a.eval K, val := a.eval Y })[q]? = if q = j then some { key := a.eval K, val := a.eval Y, born := es[j].born } else es[q]? := by
      intro q
      rw [Array.getElem?_modify]
      by_cases hq : j = q
      · subst hq; simp [he]
      · simp [hq, Ne.symm hq]
    refine fin (es.modify j fun e => { e with key := a.eval K, val := a.eval Y }) ?_ (by rw [hm]; simpa using e1) (by rw [hm]; simpa using e2) (fun w' m1 m2 q z hz => ?_) (by rw [hm]; exact underAll_set hund hun)
    · simp only [hX2, Instr.mapUpdate, Sem.run_bind, run_underlying hu, Result.andThen_ok, Go.MapKept.run_getObj_map hobj, hck, hfk, Sem.run_pure, he, Option.map_some, Option.getD_some, hkey, run_stays_cs w g2, Go.MapKept.run_setObj_map _ hobj, Array.size_modify]
    · rw [hm]
      rw [hmod] at hz
      split at hz
      · rename_i hq
        subst hq
        cases hz
        refine ⟨hborn, g1, fun u' hu' => ?_, fun v hv => ?_⟩
        · rw [← hkey]; exact (e3 _ _ he).2.2.1 u' hu'
        · rw [List.getElem?_set_self (by omega)] at hv
          cases hv
          exact hY.mono m1 (fun _ _ h => h) m2
      · rename_i hq
        have q := e3 _ z hz
        refine ⟨q.1, q.2.1, q.2.2.1, fun v hv => ?_⟩
        rw [List.getElem?_set_ne (by omega)] at hv
        exact (q.2.2.2 v hv).mono m1 (fun _ _ h => h) m2
  | none =>
    rw [hj] at hfk
    have hm : mapSt kinds (keyOf ag (rd φ k)) (rd φ y) c.1 c.2 = (c.1 ++ [keyOf ag (rd φ k)], c.2 ++ [rd φ y]) := by simp only [mapSt, hj]
    refine fin (es.push { key := a.eval K, val := a.eval Y, born := es.size }) ?_ (by rw [hm]; simpa using e1) (by rw [hm]; simpa using e2) (fun w' m1 m2 q z hz => ?_) (by rw [hm]; exact underAll_snoc hund hun)
    · simp only [hX2, Instr.mapUpdate, Sem.run_bind, run_underlying hu, Result.andThen_ok, Go.MapKept.run_getObj_map hobj, hck, hfk, Sem.run_pure, Go.MapKept.run_setObj_map _ hobj, Array.size_push]
    · rw [hm]
      rw [Array.getElem?_push] at hz
      split at hz
      · rename_i hq
        subst hq
        cases hz
        refine ⟨rfl, g1, fun u' hu' => ?_, fun v hv => ?_⟩
        · rw [e1] at hu'; simp at hu'; subst hu'; exact g2
        · rw [e2] at hv; simp at hv; subst hv; exact hY.mono m1 (fun _ _ h => h) m2
      · have hq := Array.getElem?_eq_some_iff.1 hz |>.1
        have p := e3 _ z hz
        refine ⟨p.1, p.2.1, fun u' hu' => ?_, fun v hv => ?_⟩
        · rw [List.getElem?_append_left (by omega)] at hu'; exact p.2.2.1 u' hu'
        · rw [List.getElem?_append_left (by omega)] at hv; exact (p.2.2.2 v hv).mono m1 (fun _ _ h => h) m2
/-- A map's entry. -/
theorem mne_ok (s : StA E nt φ H ρ ι a w [] []) {X K : Operand} {x k : AX} (hx : chkX X x = true) (hk : chkX K k = true) {t : TypeId} {ag : Bool} {kinds : List CK} {zero : V} (ho : o.op = .mapEntry t X K) (ht : mapIs P t ag kinds = true) (hz : mapZero P t zero = true)
    {r : V × Heap} (hp : mapNew H ag kinds zero (rd φ x) (keyOf ag (rd φ k)) = some r) : Runs P o a w (After E nt φ r.2 r.1 ρ ι a w) := by
  obtain ⟨kt, et, hu, hf, hd, hl⟩ := mapIs_inv ht
  unfold mapNew at hp
  split at hp <;> try cases hp
  rename_i i c hxi hc
  split at hp <;> try cases hp
  rename_i hh
  obtain ⟨hw, hun⟩ := hh
  have hX := rd_ok s hx
  have hK := rd_ok s hk
  obtain ⟨g1, g2⟩ := keyOf_cs hK hw hf hl hd
  have gf := key_formed hf hl g1 g2
  obtain ⟨es, e0, e1, e2, e3⟩ := mapOf_inv s.mem hX hc
  rcases e0 with ⟨e0, _⟩ | ⟨i', l, hi0, hi, hli, hX2, hobj⟩
  · rw [hxi] at hX
    obtain ⟨_, _, e9⟩ := hX.mptr_inv
    rw [e0] at e9; cases e9
  rw [hxi] at hi0
  cases hi0
  have hund := (s.mem.rcd i _ l hi hli).mp.und
  have hck := run_check_cs (P := P) w false 30 kt kinds hd 9970 (a.eval K) _ gf g2
  have hfk := run_findKey_cs (P := P) w hf hd gf g2 es.toList c.1 (by simpa using e1) (fun j e u h1 h2 => by
    have := e3 j e (by simpa using h1)
    exact ⟨key_formed hf hl this.2.1 (this.2.2.1 u h2), this.2.2.1 u h2⟩)
  obtain ⟨zi, z, hzi, hz1, hz2, hz3⟩ : ∃ i z, P.info? et = some i ∧ i.zero = some z ∧ cVal z zero = true ∧ noOwns [zero] = true := by
    unfold mapZero at hz
    rw [hu] at hz
    dsimp only at hz
    split at hz
    · rename_i i hi
      split at hz
      · simp only [Bool.and_eq_true] at hz; exact ⟨i, _, hi, ‹_›, hz⟩
      · cases hz
    · cases hz
  have hzv : ∀ w : World, (zeroValue et).run P w = .ok z w := fun w => by simp [zeroValue, typeInfo, hzi, hz1]
  have hzR : ∀ (w : World) (F : Nat → Nat → Prop) (ι : Places), R w F ι zero z := fun w F ι => ((RL_other (noOwns_ok hz3 0 zero rfl)).1 (cVal_ok hz2 w F ι)).1
  have pair : ∀ {w' : World} {u : V} {y : Value} {n : Nat}, R w' (foot ρ) ι u y → R w' (foot ρ) ι (.tup [u, .int .i64 n]) (.tuple #[y, goInt n]) := by
    intro w' u y n hR
    refine .tup _ _ rfl (fun j v x hv hx => ?_)
    match j with
    | 0 => simp at hv hx; subst hv; subst hx; exact hR
    | 1 => simp at hv hx; subst hv; subst hx; exact int_same
    | j + 2 => simp at hv
  cases hj : keyAt kinds (keyOf ag (rd φ k)) c.1 with
  | some j =>
    rw [hj] at hp
    simp only [Option.map_eq_some_iff] at hp
    obtain ⟨v0, hv0, rfl⟩ := hp
    have hjl := keyAt_lt hj
    have hjs : j < es.size := by omega
    have he : es[j]? = some es[j] := by simp [hjs]
    obtain ⟨u, hu1, hu2⟩ := keyAt_get hj
    have q := e3 j _ he
    have hborn : es[j].born = j := q.1
    have hkey : es[j].key = a.eval K := by
      obtain ⟨r, r1, r2⟩ := g2.eq_some (q.2.2.1 u hu1)
      rw [hu2] at r1
      have r3 := r2 (by simpa using r1.symm)
      have q2 := q.2.1
      generalize es[j].key = z at r3 q2
      generalize a.eval K = y' at r3 g1
      rw [← q2] at g1
      cases z <;> cases y' <;> simp only [isAggV, reduceCtorEq] at g1 <;> simp only [Value.cells] at r3 <;> first
        | (have := (List.cons.inj r3).1; exact this.symm)
        | (congr 1 <;> exact (Array.toList_inj.1 r3).symm)
    rw [hj] at hfk
    simp only [Array.getElem?_toList, he, Option.map_some] at hfk
    have hmod : ∀ q : Nat, (es.modify j fun e => { e with key := a.eval K })[q]? = es[q]? := by
      intro q
      rw [Array.getElem?_modify]
      by_cases hq : j = q
      · subst hq
        rw [if_pos rfl, he, Option.map_some, ← hkey]
      · simp [hq]
    obtain ⟨s2, g⟩ := s.setm (ks' := c.1) (vs' := c.2) hi hli (es.modify j fun e => { e with key := a.eval K }) (by simpa using e1) (by simpa using e2) (fun w' m1 m2 q z hz => by
      rw [hmod] at hz
      have p := e3 q z hz
      exact ⟨p.1, p.2.1, p.2.2.1, fun v hv => (p.2.2.2 v hv).mono m1 (fun _ _ h => h) m2⟩) hund
    have hset : H.set i (some [.mp ag kinds c.1 c.2]) = H := by
      apply List.ext_getElem?
      intro q
      by_cases hq : q = i
      · subst hq; rw [List.getElem?_set_self (get_some hi), hi]
      · rw [List.getElem?_set_ne (fun h => hq h.symm)]
    rw [hset] at s2
    refine .value (.tuple #[es[j].val, goInt j]) ?_ ⟨ρ, ι, s2.value (pair ((q.2.2.2 v0 hv0).ext g)), g⟩
    simp only [execOp, ho, hX2, Instr.mapEntry, Sem.run_bind, run_underlying hu, Result.andThen_ok, Go.MapKept.run_getObj_map hobj, hck, hfk, Sem.run_pure, he, Option.map_some, Option.getD_some, hkey, run_stays_cs w g2, Go.MapKept.run_setObj_map _ hobj, Array.size_modify, hborn]
  | none =>
    rw [hj] at hp
    simp only [Option.some.injEq] at hp
    subst hp
    rw [hj] at hfk
    obtain ⟨s2, g⟩ := s.setm (ks' := c.1 ++ [keyOf ag (rd φ k)]) (vs' := c.2 ++ [zero]) hi hli (es.push { key := a.eval K, val := z, born := es.size }) (by simpa using e1) (by simpa using e2) (fun w' m1 m2 q y hy => by
      rw [Array.getElem?_push] at hy
      split at hy
      · rename_i hq
        subst hq
        cases hy
        refine ⟨rfl, g1, fun u' hu' => ?_, fun v hv => ?_⟩
        · rw [e1] at hu'; simp at hu'; subst hu'; exact g2
        · rw [e2] at hv; simp at hv; subst hv; exact hzR _ _ _
      · have hq := Array.getElem?_eq_some_iff.1 hy |>.1
        have p := e3 _ y hy
        refine ⟨p.1, p.2.1, fun u' hu' => ?_, fun v hv => ?_⟩
        · rw [List.getElem?_append_left (by omega)] at hu'; exact p.2.2.1 u' hu'
        · rw [List.getElem?_append_left (by omega)] at hv; exact (p.2.2.2 v hv).mono m1 (fun _ _ h => h) m2) (underAll_snoc hund hun)
    refine .value (.tuple #[z, goInt es.size]) ?_ ⟨ρ, ι, s2.value (by rw [← e1]; exact pair (hzR _ _ _)), g⟩
    simp only [execOp, ho, hX2, Instr.mapEntry, Sem.run_bind, run_underlying hu, Result.andThen_ok, Go.MapKept.run_getObj_map hobj, hck, hfk, Sem.run_pure, hzv, Go.MapKept.run_setObj_map _ hobj, Array.size_push]

/-- A store into a map's entry. -/
theorem mes_ok (s : StA E nt φ H ρ ι a w [] []) {X S Y : Operand} {x st y : AX} (hx : chkX X x = true) (hs : chkX S st = true) (hy : chkX Y y = true) {t : TypeId} (ho : o.op = .entryStore t X S Y)
    {H' : Heap} (hp : mapAt H (rd φ x) (rd φ st) (rd φ y) = some H') : Runs P o a w (After E nt φ H' .undef ρ ι a w) := by
  unfold mapAt at hp
  split at hp <;> try cases hp
  rename_i i kk j hxi hst
  split at hp <;> try cases hp
  rename_i ag kinds ks vs hi
  split at hp <;> try cases hp
  rename_i hh
  obtain ⟨h0, hjl, hun⟩ := hh
  have hX := rd_ok s hx
  have hS := rd_ok s hs
  have hY := rd_ok s hy
  rw [hxi] at hX
  rw [hst] at hS
  obtain ⟨l, hl, eX⟩ := hX.mptr_inv
  have eS := hS.int_inv
  have hM := (s.mem.rcd i _ l hi hl).mp
  obtain ⟨es, hobj, e1, e2, e3⟩ := hM.at_
  obtain ⟨n, rfl⟩ : ∃ n : Nat, j = n := ⟨j.toNat, by omega⟩
  have hn : n < es.size := by omega
  have he : es[n]? = some es[n] := by simp [hn]
  have hfi : es.findIdx? (fun e => (e.born : Int) == (n : Int)) = some n := by
    rw [Array.findIdx?_eq_some_iff_getElem]
    refine ⟨hn, by simp [(e3 n _ he).1], fun q hq => ?_⟩
    have := (e3 q es[q] (by simp [show q < es.size by omega])).1
    simp [this]; omega
  obtain ⟨s2, g⟩ := s.setm (ks' := ks) (vs' := vs.set n (rd φ y)) hi hl (es.modify n fun e => { e with val := a.eval Y }) (by simpa using e1) (by simpa using e2) (fun w' m1 m2 q z hz => by
    rw [Array.getElem?_modify] at hz
    split at hz
    · rename_i hq
      subst hq
      rw [he] at hz
      simp only [Option.map_some, Option.some.injEq] at hz
      subst hz
      have p := e3 n _ he
      refine ⟨p.1, p.2.1, p.2.2.1, fun v hv => ?_⟩
      rw [List.getElem?_set_self (by omega)] at hv
      cases hv
      exact hY.mono m1 (fun _ _ h => h) m2
    · rename_i hq
      have p := e3 q z hz
      refine ⟨p.1, p.2.1, p.2.2.1, fun v hv => ?_⟩
      rw [List.getElem?_set_ne hq] at hv
      exact (p.2.2.2 v hv).mono m1 (fun _ _ h => h) m2) (underAll_set hM.und hun)
  rw [Int.toNat_natCast]
  refine .inr (.inl ⟨_, ?_, ρ, ι, s2.value (.undef _), g⟩)
  simp only [execOp, ho, eX, eS, Instr.entryStore, Sem.run_bind, Result.andThen_ok, Go.MapKept.run_getObj_map hobj, asInt, asIntOf, Sem.run_pure, hfi, Go.MapKept.run_setObj_map _ hobj, Array.size_modify]

end

end Go.AM
