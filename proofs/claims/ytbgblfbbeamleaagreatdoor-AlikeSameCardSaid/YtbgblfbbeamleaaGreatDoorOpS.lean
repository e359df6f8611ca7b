/-
  Strings and slices: length, indexing, slicing.
-/
import Derived.Test.YtbgblfbbeamleaaGreatDoorOpL
set_option linter.unusedVariables false
set_option linter.unusedSimpArgs false
namespace Go.AM

theorem bytes_get (s : List UInt8) (j : Nat) : (ByteArray.mk s.toArray)[j]? = s[j]? := by
  by_cases h : j < s.length
  · rw [ByteArray.getElem?_lt' _ _ (by simpa [ByteArray.size] using h)]
    rw [List.getElem?_eq_getElem h]
    rfl
  · rw [ByteArray.getElem?_ge' _ _ (by simpa [ByteArray.size] using h), List.getElem?_eq_none (by omega)]

theorem bytes_extract (s : List UInt8) (l h : Nat) : (ByteArray.mk s.toArray).extract l h = ByteArray.mk ((s.take h).drop l).toArray := by
  apply ByteArray.ext
  simp [List.extract_eq_drop_take', List.extract]
  
section
variable {P : Program} {E : LblP} {nt : Cx} {φ : Fr} {H : Heap} {ρ : Own} {ι : Places} {a : Act} {w : World} {o : Oper}

theorem ixs_ok (s : StA E nt φ H ρ ι a w [] []) {X I : Operand} {x i : AX} (hx : chkX X x = true) (hi : chkX I i = true) {t : TypeId} (ht : isString P t = true) (ho : o.op = .index t X I) {l : List UInt8} (h1 : rd φ x = .str l) {j : Nat} {b : UInt8}
    (hj : index φ i l.length = some j) (hb : l[j]? = some b) : Runs P o a w (After E nt φ H (.int .u8 b.toNat) ρ ι a w) := by
  obtain ⟨kk, eI, hjn⟩ := index_ok s hi hj
  have e := (h1 ▸ rd_ok s hx).str_inv
  unfold isString at ht
  split at ht <;> simp at ht
  rename_i et
  refine .value (.int .u8 b.toNat) ?_ (.same s int_same)
  have hg : (ByteArray.mk l.toArray)[j]? = some b := by rw [bytes_get, hb]
  simp only [execOp, ho, e, eI, Instr.index, asIntOf, underlying, et, Sem.run_bind, Sem.run_pure, run_program, Result.andThen]
  have h0 : (0 : Int) ≤ (j : Int) := by omega
  simp only [h0, if_true, Int.toNat_natCast, hg]
  rfl

theorem ixv_ok (s : StA E nt φ H ρ ι a w [] []) {X I : Operand} {x i : AX} (hx : chkX X x = true) (hi : chkX I i = true) {t e : TypeId} {n k : Nat} {agg : Option Nat} (ht : P.underlying t = some (.array n e)) (hek : sizeIs P e k = true) (hagg : aggIs P e agg = true)
    (ho : o.op = .index t X I) {cs : List V} (h1 : rd φ x = .agg cs) {j : Nat} (hj : index φ i n = some j) {v : V} (h : loadFrom agg cs (j * k) = some v) : Runs P o a w (After E nt φ H v ρ ι a w) := by
  obtain ⟨kk, eI, hjn⟩ := index_ok s hi hj
  obtain ⟨xs, eX, hs, hc⟩ := (h1 ▸ rd_ok s hx).agg_inv
  have hg := aggIs_ok hagg w
  have hjj : (0 : Int) ≤ (j : Int) ∧ (j : Int) < (n : Int) := by omega
  cases agg with
  | none =>
    simp only [loadFrom, Option.map_eq_some_iff] at h
    obtain ⟨u, hu, rfl⟩ := h
    have hlt := get_some hu
    have hx2 : xs[j * k]? = some xs[j * k] := by simp
    have hR := hc _ _ _ hu hx2
    refine .value xs[j * k] (by simp [execOp, ho, eX, eI, Instr.index, asIntOf, underlying, ht, hjj, run_sizeOf hek, part, hg, hs, hlt, hjn]) (.same s ?_)
    exact hR.RL.R
  | some q =>
    simp only [loadFrom] at h
    split at h
    · rename_i hn
      simp only [Option.some.injEq] at h
      subst h
      have hkq : q = k := by
        obtain ⟨i1, h1, h2⟩ := sizeIs_ok hek
        obtain ⟨i2, h3, h4⟩ := sizeIs_ok hg.2
        rw [h1] at h3; cases h3; omega
      subst hkq
      refine .value (.agg (xs.extract (j * q) (j * q + q))) (by simp [execOp, ho, eX, eI, Instr.index, asIntOf, underlying, ht, hjj, run_sizeOf hek, part, hg.1, run_sizeOf hg.2, hjn]) (.same s (.agg _ _ ?_ fun p v y hv hy => ?_))
      · simp [allStrip]; omega
      · simp only [allStrip, List.getElem?_map, Option.map_eq_some_iff] at hv
        obtain ⟨u, hu, rfl⟩ := hv
        have hjn : p < q := by have := get_some hu; simp at this; omega
        rw [List.getElem?_take_of_lt hjn, List.getElem?_drop] at hu
        have hy2 : xs[j * q + p]? = some y := by
          rw [Array.getElem?_extract] at hy
          split at hy
          · exact hy
          · cases hy
        exact (hc _ _ _ hu hy2).RL.R
    · cases h

/-- An operand that bounds a slice. -/
theorem bound_ok (s : StA E nt φ H ρ ι a w [] []) {X : Operand} {x : AX} (hx : chkX X x = true) {m n : Nat} (h : bound φ x m = some n) : ∃ k, a.eval X = .int k (n : Int) ∧ n ≤ m := by
  unfold bound at h
  split at h
  · rename_i k q e
    unfold ofNat? at h
    split at h
    · rename_i hm
      simp only [Option.some.injEq] at h
      subst h
      have hR := rd_ok s hx
      rw [e] at hR
      exact ⟨k, by rw [hR.int_inv]; congr 1; omega, by omega⟩
    · cases h
  · cases h

/-- What an optional bound comes to, against a limit that may lie further than we know. -/
theorem opt_ok (s : StA E nt φ H ρ ι a w [] []) {X : Option Operand} {x : Option AX} (hx : chkO X x = true) {d m n : Nat} (h : optBound φ x d m = some n) :
    (X = none ∧ x = none ∧ n = d) ∨ ∃ Y k, X = some Y ∧ x.isSome = true ∧ a.eval Y = .int k (n : Int) ∧ n ≤ m := by
  cases X with
  | none =>
    cases x with
    | none => simp [optBound] at h; exact .inl ⟨rfl, rfl, h.symm⟩
    | some x => simp [chkO] at hx
  | some X =>
    cases x with
    | none => simp [chkO] at hx
    | some x =>
      obtain ⟨k, e, hn⟩ := bound_ok s hx h
      exact .inr ⟨X, k, rfl, rfl, e, hn⟩

theorem run_bound (k : IntKind) (n y : Nat) (code : BoundsCode) (h : n ≤ y) : (Instr.sliceBound (.int k (n : Int)) y code).run P w = .ok n w := by
  rw [run_sliceBound w k n y code (by omega) (by omega)]; simp

/-- The three bounds of a slice: ours (over lengths that we know) against the model's. -/
theorem run_bounds (s : StA E nt φ H ρ ι a w [] []) {Lo Hi Mx : Option Operand} {lo hi mx : Option AX} (h1 : chkO Lo lo = true) (h2 : chkO Hi hi = true) (h3 : chkO Mx mx = true) (h4 : mx.isSome = true → hi.isSome = true) {isSlice : Bool} {len cap cap' m h l dm : Nat}
    (hm : optBound φ mx dm cap = some m) (hh : optBound φ hi len m = some h) (hl : optBound φ lo 0 h = some l) (hc : cap ≤ cap') (hd : dm = cap) (hlen : len ≤ cap') :
    ∃ m', (Instr.sliceBounds isSlice len cap' (Lo.map a.eval) (Hi.map a.eval) (Mx.map a.eval)).run P w = .ok (l, h, m') w ∧ (mx.isSome = true → m' = m) ∧ (mx.isSome = false → m' = cap' ∧ m = cap) ∧ l ≤ h ∧ h ≤ m' ∧ (hi.isSome = true → h ≤ m) ∧ (hi.isSome = false → h = len) := by
  subst hd
  rcases opt_ok s h3 hm with ⟨rfl, rfl, rfl⟩ | ⟨M, km, rfl, hms, eM, hm1⟩ <;> rcases opt_ok s h2 hh with ⟨rfl, rfl, rfl⟩ | ⟨Y, kh, rfl, hhs, eH, hh1⟩ <;> rcases opt_ok s h1 hl with ⟨rfl, rfl, rfl⟩ | ⟨L, kl, rfl, hls, eL, hl1⟩
  · exact ⟨cap', by simp [Instr.sliceBounds], by simp, by simp, by omega, by omega, by simp, by simp⟩
  · exact ⟨cap', by simp [Instr.sliceBounds, eL, run_bound kl l h _ hl1], by simp, by simp, hl1, hlen, by simp, by simp⟩
  · exact ⟨cap', by simp [Instr.sliceBounds, eH, run_bound kh h cap' _ (Nat.le_trans hh1 hc)], by simp, by simp, by omega, by omega, fun _ => hh1, by simp [hhs]⟩
  · exact ⟨cap', by simp [Instr.sliceBounds, eH, run_bound kh h cap' _ (Nat.le_trans hh1 hc), eL, run_bound kl l h _ hl1], by simp, by simp, hl1, by omega, fun _ => hh1, by simp [hhs]⟩
  · exact absurd (h4 hms) (by simp)
  · exact absurd (h4 hms) (by simp)
  · exact ⟨m, by simp [Instr.sliceBounds, eM, run_bound km m cap' _ (Nat.le_trans hm1 hc), eH, run_bound kh h m _ hh1], by simp, by simp [hms], by omega, hh1, fun _ => hh1, by simp [hhs]⟩
  · exact ⟨m, by simp [Instr.sliceBounds, eM, run_bound km m cap' _ (Nat.le_trans hm1 hc), eH, run_bound kh h m _ hh1, eL, run_bound kl l h _ hl1], by simp, by simp [hms], hl1, hh1, fun _ => hh1, by simp [hhs]⟩

theorem slc_ok (s : StA E nt φ H ρ ι a w [] []) {X : Operand} {x : AX} (hx : chkX X x = true) {Lo Hi : Option Operand} {lo hi : Option AX} (h1 : chkO Lo lo = true) (h2 : chkO Hi hi = true) {t : TypeId} (ht : isString P t = true) (ho : o.op = .slice t X Lo Hi none)
    {b : List UInt8} (hr : rd φ x = .str b) {h l : Nat} (hh : optBound φ hi b.length b.length = some h) (hl : optBound φ lo 0 h = some l) : Runs P o a w (After E nt φ H (.str ((b.take h).drop l)) ρ ι a w) := by
  have e := (hr ▸ rd_ok s hx).str_inv
  unfold isString at ht
  split at ht <;> simp at ht
  rename_i et
  obtain ⟨m', run, _⟩ := run_bounds (P := P) s (isSlice := false) (Mx := none) (mx := none) h1 h2 rfl (by simp) (dm := b.length) (cap := b.length) (cap' := b.length) (len := b.length) (m := b.length) rfl hh hl (Nat.le_refl _) rfl (Nat.le_refl _)
  refine .value (.string ⟨((b.take h).drop l).toArray⟩) ?_ (.same s (.pr (.str _)))
  have hsz : (ByteArray.mk b.toArray).size = b.length := by simp [ByteArray.size]
  simp only [Option.map_none] at run
  simp only [execOp, ho, e, Instr.sliceAt, underlying, et, Sem.run_bind, Sem.run_pure, run_program, Result.andThen, Instr.slice, Option.map_none, hsz]
  simp [bytes_extract, run]

theorem PR.slice {F : Nat → Nat → Prop} {k : Nat} {rows : List (List V)} {ad : Option Addr} {n cap : Nat} (hp : PR w F (.sl k rows) (.slice ad n cap)) {l h m : Nat} (h1 : l ≤ h) (h2 : h ≤ rows.length) (h3 : h ≤ m) (h4 : m ≤ cap) :
    PR w F (.sl k ((rows.take h).drop l)) (.slice (if m = l then ad else ad.map (·.add (l * k))) (h - l) (m - l)) := by
  cases hp with
  | sl _ _ ad cap b off vals hcap hn hk ha hc hr =>
    have hlen : ((rows.take h).drop l).length = h - l := by simp; omega
    have hget : ∀ (i : Nat) r, ((rows.take h).drop l)[i]? = some r → rows[l + i]? = some r := by
      intro i r hi
      rw [List.getElem?_drop] at hi
      have := get_some hi
      simp at this
      rwa [List.getElem?_take_of_lt (by omega)] at hi
    have := PR.sl (w := w) (F := F) k ((rows.take h).drop l) (if m = l then ad else ad.map (·.add (l * k))) (m - l) b (off + l * k) (fun i j => vals (l + i) j) (by omega) (fun hh => ?_) (fun r hr => hk r (List.mem_of_mem_take (List.mem_of_mem_drop hr))) (fun hne => ?_)
      (fun i j r v hi hj => ?_) (fun i j r v hi hj => hr (l + i) j r v (hget i r hi) hj)
    · rwa [hlen] at this
    · split at hh
      · omega
      · simp at hh; have := hn hh; omega
    · have h5 : l < h := by
        rcases Nat.lt_or_ge l h with h6 | h6
        · exact h6
        · exact absurd (List.eq_nil_of_length_eq_zero (by omega)) hne
      have hne2 : rows ≠ [] := by rintro rfl; simp at h2; omega
      rw [if_neg (by omega), ha hne2]
      simp [add_eq]
    · have := hc (l + i) j r v (hget i r hi) hj
      rwa [show off + (l + i) * k + j = off + l * k + i * k + j by rw [Nat.add_mul]; omega] at this

theorem own_empty {F : Nat → Nat → Prop} (k : Nat) (ad : Option Addr) : RL w F ι (.own k []) (.slice ad 0 0) none :=
  ⟨.sl k [] ad 0 0 0 (fun _ _ => default) (Nat.le_refl _) (fun _ => rfl) (by simp) (by simp) (by simp) (by simp), ad, 0, rfl, rfl⟩

theorem StA.valueL (s : StA E nt φ H ρ ι a w [] []) {v : V} {x : Value} (h : RL w (foot ρ) ι v x none) : StA E nt φ H ρ ι a w [v] [x] := by
  refine ⟨s.sz, s.df, s.sl, rfl, fun j u y h1 h2 => ?_, fun j hj => s.an j (by simp), s.mem, s.sep, s.wd⟩
  cases j with
  | zero => simp at h1 h2; subst h1; subst h2; rw [s.an 0 (by simp)]; exact h
  | succ j => simp at h1

theorem sls_ok (s : StA E nt φ H ρ ι a w [] []) {X : Operand} {x : AX} (hx : chkX X x = true) {Lo Hi Mx : Option Operand} {lo hi mx : Option AX} (h1 : chkO Lo lo = true) (h2 : chkO Hi hi = true) (h3 : chkO Mx mx = true) (h4 : mx.isSome = true → hi.isSome = true)
    {t : TypeId} {k : Nat} (ht : isSlice P t k = true) (ho : o.op = .slice t X Lo Hi Mx) {rows : List (List V)} (hr : rd φ x = .sl k rows) {m h l : Nat} (hm : optBound φ mx rows.length rows.length = some m) (hh : optBound φ hi rows.length m = some h) (hl : optBound φ lo 0 h = some l) :
    Runs P o a w (After E nt φ H (if mx.isSome = true ∧ m = l then .own k [] else .sl k ((rows.take h).drop l)) ρ ι a w) := by
  obtain ⟨e, het, hek⟩ := isSlice_ok ht
  have hX := (hr ▸ rd_ok s hx).sl_inv
  generalize hy : a.eval X = y at hX
  have hX0 := hX
  cases hX with
  | sl _ _ ad cap b off vals hcap hn hk ha hc hr =>
    obtain ⟨m', run, q1, q2, q3, q4, q5, q6⟩ := run_bounds (P := P) s (isSlice := true) h1 h2 h3 h4 (dm := rows.length) (cap' := cap) hm hh hl hcap rfl hcap
    have run2 : (execOp a.eval o).run P w = .ok (.value (.slice (if m' = l then ad else ad.map (·.add (l * k))) (h - l) (m' - l))) w := by
      simp only [execOp, ho, hy, Instr.sliceAt, underlying, het, Sem.run_bind, Sem.run_pure, run_program, Result.andThen, Instr.slice, run, run_sizeOf hek]
    have hml : m ≤ rows.length := by
      rcases opt_ok s h3 hm with ⟨_, _, rfl⟩ | ⟨_, _, _, _, _, h⟩ <;> omega
    have hhr : h ≤ rows.length := by
      cases hb : hi.isSome with
      | true => have := q5 hb; omega
      | false => have := q6 hb; omega
    have hmc : m' ≤ cap := by
      cases hb : mx.isSome with
      | true => have := q1 hb; omega
      | false => have := (q2 hb).1; omega
    have hP := hX0.slice (l := l) (h := h) (m := m') q3 hhr q4 hmc
    split
    · rename_i hc2
      have := q1 hc2.1
      have hz : h - l = 0 ∧ m' - l = 0 := by omega
      rw [hz.1, hz.2] at run2
      exact .value _ run2 ⟨ρ, ι, s.valueL (own_empty k _), .refl _ _ _⟩
    · exact .value _ run2 (.same s (.pr hP))

theorem sls_ms_ok (s : StA E nt φ H ρ ι a w [] []) {X : Operand} {x : AX} (hx : chkX X x = true) {Lo Hi Mx : Option Operand} {lo hi mx : Option AX} (h1 : chkO Lo lo = true) (h2 : chkO Hi hi = true) (h3 : chkO Mx mx = true) (h4 : mx.isSome = true → hi.isSome = true)
    {t : TypeId} {k : Nat} (ht : isSlice P t k = true) (ho : o.op = .slice t X Lo Hi Mx) {b0 f len cap : Nat} (hr : rd φ x = .ms b0 f len cap) {m h l : Nat} (hm : optBound φ mx cap cap = some m) (hh : optBound φ hi len m = some h) (hl : optBound φ lo 0 h = some l) :
    Runs P o a w (After E nt φ H (if mx.isSome = true ∧ m = l then .own k [] else .ms b0 (f + l * k) (h - l) (m - l)) ρ ι a w) := by
  obtain ⟨e, het, hek⟩ := isSlice_ok ht
  obtain ⟨b, base, cap', ad, hp, hlc, hcc, had, hnn, eX⟩ := (hr ▸ rd_ok s hx).ms_inv
  obtain ⟨m', run, q1, q2, q3, q4, q5, q6⟩ := run_bounds (P := P) s (isSlice := true) h1 h2 h3 h4 (dm := cap) (cap' := cap') hm hh hl hcc rfl (by omega)
  have run2 : (execOp a.eval o).run P w = .ok (.value (.slice (if m' = l then ad else ad.map (·.add (l * k))) (h - l) (m' - l))) w := by
    simp only [execOp, ho, eX, Instr.sliceAt, underlying, het, Sem.run_bind, Sem.run_pure, run_program, Result.andThen, Instr.slice, run, run_sizeOf hek]
  split
  · rename_i hc2
    have := q1 hc2.1
    have hz : h - l = 0 ∧ m' - l = 0 := by omega
    rw [hz.1, hz.2] at run2
    exact .value _ run2 ⟨ρ, ι, s.valueL (own_empty k _), .refl _ _ _⟩
  · have hmm : m ≤ m' := by
      cases hb : mx.isSome with
      | true => have := q1 hb; omega
      | false => have := q2 hb; omega
    have hhm : h ≤ m := by
      cases hb : hi.isSome with
      | true => exact q5 hb
      | false =>
        have h5 := q6 hb
        have h6 : mx.isSome = false := by
          cases hb2 : mx.isSome with
          | true => exact absurd (h4 hb2) (by simp [hb])
          | false => rfl
        have := q2 h6; omega
    refine .value _ run2 (.same s (.ms _ _ _ _ b base _ _ hp (by omega) (by omega) (fun hne => ?_) (fun hh2 => ?_)))
    · rw [if_neg (by omega), had (by
        have : m ≤ cap := by rcases opt_ok s h3 hm with ⟨_, _, rfl⟩ | ⟨_, _, _, _, _, h⟩ <;> omega
        omega)]
      simp only [Option.map_some, add_eq, Option.some.injEq, Addr.mk.injEq, and_true, true_and]
      omega
    · split at hh2
      · omega
      · simp at hh2
        have h0 := hnn hh2
        have : m' ≤ cap' := by
          cases hb : mx.isSome with
          | true =>
            have := q1 hb
            have : m ≤ cap := by rcases opt_ok s h3 hm with ⟨_, _, rfl⟩ | ⟨_, _, _, _, _, h⟩ <;> omega
            omega
          | false => have := q2 hb; omega
        omega

theorem sls_mg_ok (s : StA E nt φ H ρ ι a w [] []) {X : Operand} {x : AX} (hx : chkX X x = true) {Lo Hi Mx : Option Operand} {lo hi mx : Option AX} (h1 : chkO Lo lo = true) (h2 : chkO Hi hi = true) (h3 : chkO Mx mx = true) (h4 : mx.isSome = true → hi.isSome = true)
    {t : TypeId} {k : Nat} (ht : isSlice P t k = true) (ho : o.op = .slice t X Lo Hi Mx) {b0 f len cap : Nat} (hr : rd φ x = .mg k b0 f len cap) {m h l : Nat} (hm : optBound φ mx cap cap = some m) (hh : optBound φ hi len m = some h) (hl : optBound φ lo 0 h = some l) :
    Runs P o a w (After E nt φ H (.mg k b0 (f + l * k) (h - l) (m - l)) ρ ι a w) := by
  obtain ⟨e, het, hek⟩ := isSlice_ok ht
  obtain ⟨b, base, cap', ad, hp, hlc, hcc, had, hnn, hcap, eX⟩ := (hr ▸ rd_ok s hx).mg_inv
  obtain ⟨m', run, q1, q2, q3, q4, q5, q6⟩ := run_bounds (P := P) s (isSlice := true) h1 h2 h3 h4 (dm := cap) (cap' := cap') hm hh hl hcc rfl (by omega)
  have run2 : (execOp a.eval o).run P w = .ok (.value (.slice (if m' = l then ad else ad.map (·.add (l * k))) (h - l) (m' - l))) w := by
    simp only [execOp, ho, eX, Instr.sliceAt, underlying, het, Sem.run_bind, Sem.run_pure, run_program, Result.andThen, Instr.slice, run, run_sizeOf hek]
  have hmm : m ≤ m' := by
    cases hb : mx.isSome with
    | true => have := q1 hb; omega
    | false => have := q2 hb; omega
  have hhm : h ≤ m := by
    cases hb : hi.isSome with
    | true => exact q5 hb
    | false =>
      have h5 := q6 hb
      have h6 : mx.isSome = false := by
        cases hb2 : mx.isSome with
        | true => exact absurd (h4 hb2) (by simp [hb])
        | false => rfl
      have := q2 h6; omega
  have hmc : m' ≤ cap' := by
    cases hb : mx.isSome with
    | true =>
      have := q1 hb
      have : m ≤ cap := by rcases opt_ok s h3 hm with ⟨_, _, rfl⟩ | ⟨_, _, _, _, _, h⟩ <;> omega
      omega
    | false => have := q2 hb; omega
  refine .value _ run2 (.same s (.mg _ _ _ _ _ b base _ _ hp (by omega) (by omega) (fun hne => ?_) (fun hh2 => ?_) ?_))
  · rw [if_neg (by omega), had (by omega)]
    simp only [Option.map_some, add_eq, Option.some.injEq, Addr.mk.injEq, and_true, true_and]
    omega
  · split at hh2
    · omega
    · simp at hh2
      have h0 := hnn hh2
      omega
  · obtain ⟨c, ty, fr, g1, g2⟩ := hcap
    refine ⟨c, ty, fr, g1, Nat.le_trans ?_ g2⟩
    have : l * k + (m' - l) * k = m' * k := by rw [← Nat.add_mul]; congr 1; omega
    have : m' * k ≤ cap' * k := Nat.mul_le_mul_right k hmc
    omega

/-- What a slice of an array is made of. -/
def ptrElem (P : Program) (t : TypeId) (n k : Nat) : Bool :=
  match P.underlying t with
  | some (.array m e) => m == n && sizeIs P e k
  | some (.pointer arr) => match P.underlying arr with
    | some (.array m e) => m == n && sizeIs P e k
    | _ => false
  | _ => false

theorem run_slice_array {t : TypeId} {n k : Nat} (ht : ptrElem P t n k = true) (ad : Addr) (lo hi mx : Option Value) {l h m : Nat} (run : (Instr.sliceBounds false n n lo hi mx).run P w = .ok (l, h, m) w) :
    (Instr.sliceAt t (.pointer (some ad)) lo hi mx).run P w = .ok (.slice (some (if m = l then ad else ad.add (l * k))) (h - l) (m - l)) w := by
  unfold ptrElem at ht
  split at ht
  · rename_i q e he
    simp only [Bool.and_eq_true, beq_iff_eq] at ht
    obtain ⟨rfl, hk⟩ := ht
    simp [Instr.sliceAt, underlying, he, Instr.sureAddr, run, run_sizeOf hk]
  · rename_i arr he
    split at ht
    · rename_i q e he2
      simp only [Bool.and_eq_true, beq_iff_eq] at ht
      obtain ⟨rfl, hk⟩ := ht
      simp [Instr.sliceAt, Instr.slice, underlying, he, he2, asAddr, run, run_sizeOf hk]
    · cases ht
  · cases ht

theorem slp_ok (s : StA E nt φ H ρ ι a w [] []) {X : Operand} {x : AX} (hx : chkX X x = true) {Lo Hi Mx : Option Operand} {lo hi mx : Option AX} (h1 : chkO Lo lo = true) (h2 : chkO Hi hi = true) (h3 : chkO Mx mx = true) (h4 : mx.isSome = true → hi.isSome = true)
    {t : TypeId} {n k : Nat} (ht : ptrElem P t n k = true) (ho : o.op = .slice t X Lo Hi Mx) {b0 f : Nat} (hr : rd φ x = .ptr b0 f) {m h l : Nat} (hm : optBound φ mx n n = some m) (hh : optBound φ hi n m = some h) (hl : optBound φ lo 0 h = some l) :
    Runs P o a w (After E nt φ H (if m = l then .own k [] else .ms b0 (f + l * k) (h - l) (m - l)) ρ ι a w) := by
  obtain ⟨b, base, hp, eX⟩ := (hr ▸ rd_ok s hx).ptr_inv
  obtain ⟨m', run, q1, q2, q3, q4, q5, q6⟩ := run_bounds (P := P) s (isSlice := false) h1 h2 h3 h4 (dm := n) (cap' := n) hm hh hl (Nat.le_refl _) rfl (Nat.le_refl _)
  have hmm : m' = m := by
    cases hb : mx.isSome with
    | true => exact q1 hb
    | false => have := q2 hb; omega
  subst hmm
  have run2 : (execOp a.eval o).run P w = .ok (.value (.slice (some (if m' = l then ⟨b, base + f, none⟩ else ⟨b, base + f + l * k, none⟩)) (h - l) (m' - l))) w := by
    have := run_slice_array (w := w) ht ⟨b, base + f, none⟩ _ _ _ run
    simp [execOp, ho, eX, this, add_eq]
  split
  · rename_i hml
    have hz : h - l = 0 ∧ m' - l = 0 := by omega
    rw [hz.1, hz.2] at run2
    exact .value _ run2 ⟨ρ, ι, s.valueL (own_empty k _), .refl _ _ _⟩
  · rename_i hml
    rw [if_neg hml] at run2
    refine .value _ run2 (.same s (.ms _ _ _ _ b base _ _ hp (by omega) (Nat.le_refl _) (fun _ => ?_) (fun hh => by cases hh)))
    rw [Nat.add_assoc]

theorem chunk_length : ∀ (n k : Nat) (cs : List V) (off : Nat), (chunk k cs off n).length = n
  | 0, _, _, _ => rfl
  | n + 1, k, cs, off => by simp [chunk, chunk_length n]

theorem chunk_get : ∀ (n k : Nat) (cs : List V) (off i : Nat), i < n → (chunk k cs off n)[i]? = some ((cs.drop (off + i * k)).take k)
  | 0, _, _, _, _, h => by omega
  | n + 1, k, cs, off, i, h => by
    cases i with
    | zero => simp [chunk]
    | succ i =>
      simp only [chunk, List.getElem?_cons_succ]
      rw [chunk_get n k cs (off + k) i (by omega)]
      rw [show off + k + i * k = off + (i + 1) * k by rw [Nat.add_mul]; omega]

theorem chunk_cell {n k : Nat} {cs : List V} {off i j : Nat} {r : List V} {v : V} (hr : (chunk k cs off n)[i]? = some r) (hv : r[j]? = some v) : i < n ∧ j < k ∧ cs[off + i * k + j]? = some v := by
  have hi : i < n := by have := get_some hr; rwa [chunk_length] at this
  rw [chunk_get n k cs off i hi] at hr
  simp only [Option.some.injEq] at hr
  subst hr
  have hj : j < k := by have := get_some hv; simp at this; omega
  refine ⟨hi, hj, ?_⟩
  rw [List.getElem?_take_of_lt hj, List.getElem?_drop] at hv
  exact hv

theorem chunk_width {n k : Nat} {cs : List V} {off : Nat} (h : off + n * k ≤ cs.length) : ∀ r ∈ chunk k cs off n, r.length = k := by
  intro r hr
  obtain ⟨i, hi⟩ := List.getElem?_of_mem hr
  have hi2 : i < n := by have := get_some hi; rwa [chunk_length] at this
  rw [chunk_get n k cs off i hi2] at hi
  simp only [Option.some.injEq] at hi
  subst hi
  simp
  have : i * k + k ≤ n * k := by
    have := Nat.mul_le_mul_right k (show i + 1 ≤ n by omega)
    rw [Nat.add_mul] at this; omega
  omega

theorem slp_rp_ok (s : StA E nt φ H ρ ι a w [] []) {X : Operand} {x : AX} (hx : chkX X x = true) {Lo Hi Mx : Option Operand} {lo hi mx : Option AX} (h1 : chkO Lo lo = true) (h2 : chkO Hi hi = true) (h3 : chkO Mx mx = true) (h4 : mx.isSome = true → hi.isSome = true)
    {t : TypeId} {n k : Nat} (ht : ptrElem P t n k = true) (ho : o.op = .slice t X Lo Hi Mx) {row : List V} {f : Nat} (hr : rd φ x = .rp row f) {m h l : Nat} (hm : optBound φ mx n n = some m) (hh : optBound φ hi n m = some h) (hl : optBound φ lo 0 h = some l)
    (hn : f + n * k ≤ row.length) : Runs P o a w (After E nt φ H (if mx.isSome = true ∧ m = l then .own k [] else .sl k (chunk k row (f + l * k) (h - l))) ρ ι a w) := by
  obtain ⟨b, base, vals, eX, hc, hr⟩ := (hr ▸ rd_ok s hx).rp_inv
  obtain ⟨m', run, q1, q2, q3, q4, q5, q6⟩ := run_bounds (P := P) s (isSlice := false) h1 h2 h3 h4 (dm := n) (cap' := n) hm hh hl (Nat.le_refl _) rfl (Nat.le_refl _)
  have hmm : m' = m := by
    cases hb : mx.isSome with
    | true => exact q1 hb
    | false => have := q2 hb; omega
  subst hmm
  have hmn : m' ≤ n := by rcases opt_ok s h3 hm with ⟨_, _, rfl⟩ | ⟨_, _, _, _, _, h⟩ <;> omega
  have run2 : (execOp a.eval o).run P w = .ok (.value (.slice (some (if m' = l then ⟨b, base + f, none⟩ else ⟨b, base + f + l * k, none⟩)) (h - l) (m' - l))) w := by
    have := run_slice_array (w := w) ht ⟨b, base + f, none⟩ _ _ _ run
    simp [execOp, ho, eX, this, add_eq]
  split
  · rename_i hml
    have hz : h - l = 0 ∧ m' - l = 0 := by omega
    rw [hz.1, hz.2] at run2
    exact .value _ run2 ⟨ρ, ι, s.valueL (own_empty k _), .refl _ _ _⟩
  · have hle : l * k + (h - l) * k ≤ n * k := by
      rw [← Nat.add_mul]; exact Nat.mul_le_mul_right k (by omega)
    have hP := PR.sl (w := w) (F := foot ρ) k (chunk k row (f + l * k) (h - l)) (some (if m' = l then ⟨b, base + f, none⟩ else ⟨b, base + f + l * k, none⟩)) (m' - l) b (base + (f + l * k)) (fun i j => vals (f + l * k + i * k + j))
      (by rw [chunk_length]; omega) (fun hh => by cases hh) (chunk_width (by omega)) (fun hne => ?_)
      (fun i j r v hi hj => ?_) (fun i j r v hi hj => ?_)
    · rw [chunk_length] at hP
      exact .value _ run2 (.same s (.pr hP))
    · have : l < h := by
        rcases Nat.lt_or_ge l h with h6 | h6
        · exact h6
        · exact absurd (List.eq_nil_of_length_eq_zero (by rw [chunk_length]; omega)) hne
      rw [if_neg (by omega), Nat.add_assoc]
    · obtain ⟨_, _, h5⟩ := chunk_cell hi hj
      have := hc _ _ h5
      rwa [show base + (f + l * k + i * k + j) = base + (f + l * k) + i * k + j by omega] at this
    · obtain ⟨_, _, h5⟩ := chunk_cell hi hj
      exact hr _ _ h5

/-- The types whose length is asked. -/
def lenType (P : Program) (t : TypeId) : Bool :=
  match P.underlying t with
  | some .string | some (.slice _) => true
  | _ => false

theorem len_ok (s : StA E nt φ H ρ ι a w [] []) {X : Operand} {x : AX} (hx : chkX X x = true) {t : TypeId} {ts : Array TypeId} (hts : ts[0]? = some t) (ho : o.op = .call { callee := .builtin .len, args := #[X], argTypes := ts }) {n : Nat}
    (hv : (∃ l, rd φ x = .str l ∧ n = l.length ∧ isString P t = true) ∨ (∃ k r, rd φ x = .sl k r ∧ n = r.length ∧ lenType P t = true ∧ isString P t = false) ∨ ∃ i f c, R w (foot ρ) ι (.ms i f n c) (a.eval X) ∧ lenType P t = true ∧ isString P t = false) :
    Runs P o a w (After E nt φ H (.int .i64 n) ρ ι a w) := by
  have hX := rd_ok s hx
  have slice : ∀ ad c, a.eval X = .slice ad n c → lenType P t = true → isString P t = false → (execOp a.eval o).run P w = .ok (.value (.int .i64 n)) w := by
    intro ad c e h1 h2
    unfold lenType at h1
    unfold isString at h2
    split at h1
    · rename_i et; simp [et] at h2
    · rename_i q et
      simp [execOp, ho, e, resolve, invoke, builtin, Builtin.len_, hts, underlying, et, goInt]
    · cases h1
  refine .value _ ?_ (.same s int_same)
  rcases hv with ⟨l, h1, rfl, ht⟩ | ⟨k, r, h1, rfl, ht, ht2⟩ | ⟨i, f, c, h1, ht, ht2⟩
  · have e := (h1 ▸ hX).str_inv
    unfold isString at ht
    split at ht <;> simp at ht
    rename_i et
    have hsz : (ByteArray.mk l.toArray).size = l.length := by simp [ByteArray.size]
    simp only [execOp, ho, resolve, Array.map_singleton, e, Sem.run_bind, Sem.run_pure, Result.andThen, invoke, builtin, Builtin.len_, hts, goInt, hsz]
    simp [run_underlying et, hsz]
  · have hX2 := (h1 ▸ hX).sl_inv
    generalize hy : a.eval X = y at hX2
    cases hX2 with
    | sl _ _ ad cap b off vals hcap hn hk ha hc hr => exact slice ad cap hy ht ht2
  · obtain ⟨b, base, cap', ad, _, _, _, _, _, e⟩ := h1.ms_inv
    exact slice ad cap' e ht ht2

/-- The length of an array, or of the array behind a pointer. -/
def arrLen (P : Program) (t : TypeId) (n : Nat) : Bool :=
  match P.underlying t with
  | some (.array m _) => m == n
  | some (.pointer arr) => match P.underlying arr with
    | some (.array m _) => m == n
    | _ => false
  | _ => false

theorem lena_ok (s : StA E nt φ H ρ ι a w [] []) {X : Operand} {t : TypeId} {ts : Array TypeId} (hts : ts[0]? = some t) {n : Nat} (ht : arrLen P t n = true) (ho : o.op = .call { callee := .builtin .len, args := #[X], argTypes := ts }) :
    Runs P o a w (After E nt φ H (.int .i64 n) ρ ι a w) := by
  refine .value (.int .i64 n) ?_ (.same s int_same)
  unfold arrLen at ht
  split at ht
  · rename_i m e et
    obtain rfl : m = n := by simpa using ht
    simp [execOp, ho, resolve, invoke, builtin, Builtin.len_, hts, underlying, et, goInt]
  · rename_i arr et
    split at ht
    · rename_i m e et2
      obtain rfl : m = n := by simpa using ht
      simp [execOp, ho, resolve, invoke, builtin, Builtin.len_, hts, underlying, et, et2, goInt]
    · cases ht
  · cases ht

end
end Go.AM
