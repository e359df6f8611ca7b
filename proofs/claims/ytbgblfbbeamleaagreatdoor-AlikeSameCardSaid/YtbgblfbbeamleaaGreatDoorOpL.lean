/-
  Loads, stores, addresses, parts of aggregates.
-/
import Derived.Test.YtbgblfbbeamleaaGreatDoorOpM
set_option linter.unusedVariables false
set_option linter.unusedSimpArgs false
namespace Go.AM

section
variable {P : Program} {E : LblP} {nt : Cx} {φ : Fr} {H : Heap} {ρ : Own} {ι : Places} {a : Act} {w : World} {o : Oper}

theorem sizeIs_ok {t : TypeId} {k : Nat} (h : sizeIs P t k = true) : ∃ i, P.info? t = some i ∧ i.size = k := by
  unfold sizeIs at h
  split at h
  · rename_i i hi; exact ⟨i, hi, by simpa using h⟩
  · cases h

theorem run_sizeOf {t : TypeId} {k : Nat} (h : sizeIs P t k = true) (w : World) : (sizeOf t).run P w = .ok k w := by
  obtain ⟨i, hi, rfl⟩ := sizeIs_ok h
  simp [sizeOf, typeInfo, hi]

theorem aggIs_ok {t : TypeId} {agg : Option Nat} (h : aggIs P t agg = true) (w : World) :
    match agg with
    | none => (isAgg t).run P w = .ok false w
    | some n => (isAgg t).run P w = .ok true w ∧ sizeIs P t n = true := by
  unfold aggIs at h
  rcases e : P.underlying t with _ | d
  · rw [e] at h; cases h
  · rw [e] at h
    have hg : (isAgg t).run P w = .ok (match d with | .struct _ | .array _ _ => true | _ => false) w := by
      simp only [isAgg, underlying, Sem.run_bind, run_program, Result.andThen, e]
      cases d <;> rfl
    cases agg with
    | none => rw [hg]; cases d <;> first | rfl | cases h
    | some n => rw [hg]; cases d <;> first | exact ⟨rfl, h⟩ | cases h

/-- Where cells can be read. -/
def Reads (w : World) (F : Nat → Nat → Prop) (ι : Places) (b base : Nat) (cs : List V) : Prop :=
  ∀ (j : Nat) (u : V), cs[j]? = some u → ∃ y, w.cell? ⟨b, base + j, none⟩ = some y ∧ R w F ι u.strip y

theorem run_loadVar {F : Nat → Nat → Prop} {b base off : Nat} {cs : List V} (hr : Reads w F ι b base cs) {t : TypeId} {agg : Option Nat} (ht : aggIs P t agg = true) {v : V} (h : loadFrom agg cs off = some v) :
    ∃ y, (loadVar t ⟨b, base + off, none⟩).run P w = .ok y w ∧ R w F ι v y := by
  have hg := aggIs_ok ht w
  cases agg with
  | none =>
    simp only [loadFrom, Option.map_eq_some_iff] at h
    obtain ⟨u, hu, rfl⟩ := h
    obtain ⟨y, hy, hr'⟩ := hr off u hu
    exact ⟨y, by simp [loadVar, hg, hy], hr'⟩
  | some n =>
    simp only [loadFrom] at h
    split at h
    · rename_i hn
      simp only [Option.some.injEq] at h
      subst h
      -- the cells' values
      have hex : ∀ j, ∃ y, j < n → w.cell? ⟨b, base + off + j, none⟩ = some y ∧ ∀ u, cs[off + j]? = some u → R w F ι u.strip y := by
        intro j
        by_cases hj : j < n
        · have hlt : off + j < cs.length := by omega
          obtain ⟨y, hy, hr'⟩ := hr (off + j) cs[off + j] (by simp)
          refine ⟨y, fun _ => ⟨by rw [Nat.add_assoc]; exact hy, fun u hu => ?_⟩⟩
          simp [hlt] at hu; subst hu; exact hr'
        · exact ⟨default, fun h => absurd h hj⟩
      let f : Nat → Value := fun j => (hex j).choose
      have hf : ∀ j, j < n → w.cell? ⟨b, base + off + j, none⟩ = some (f j) ∧ ∀ u, cs[off + j]? = some u → R w F ι u.strip (f j) := fun j hj => (hex j).choose_spec hj
      have hl := run_loadCells (P := P) w ⟨b, base + off, none⟩ n f (fun j hj => by rw [add_eq]; exact (hf j hj).1)
      refine ⟨.agg ((List.range n).map f).toArray, ?_, .agg _ _ ?_ fun j v x hv hx => ?_⟩
      · simp [loadVar, hg.1, run_sizeOf hg.2, hl]
      · simp [allStrip]; omega
      · simp only [allStrip, List.getElem?_map, Option.map_eq_some_iff] at hv
        obtain ⟨u, hu, rfl⟩ := hv
        have hjn : j < n := by
          have := get_some hu
          simp at this; omega
        simp [hjn] at hx
        subst hx
        rw [List.getElem?_take_of_lt hjn, List.getElem?_drop] at hu
        exact (hf j hjn).2 u hu
    · cases h

theorem Mem.reads (m : Mem E H ι ρ w) {i b base : Nat} {vs : List V} (hi : H[i]? = some (some vs)) (hp : ι[i]? = some (.blk b base)) : Reads w (foot ρ) ι b base vs := by
  obtain ⟨_, c, t, fr, h1, h2, h3, h4⟩ := m.at hi hp
  intro j u hu
  obtain ⟨x, hx, hr, _⟩ := h4 j u hu
  exact ⟨x, by rw [cell_of_obj h1]; exact hx, hr.R⟩

theorem PR.strip {w : World} {F : Nat → Nat → Prop} {v : V} {x : Value} (h : PR w F v x) : PR w F v.strip x := by
  cases h with
  | nils k => exact pr_nil w F k
  | bool b => exact .bool b
  | int k n => exact .int k n
  | str s => exact .str s
  | nilp => exact .nilp
  | nilf => exact .nilf
  | nilm => exact .nilm
  | fn f => exact .fn f
  | sl k rows a cap b off vals hcap hn hk ha hc hr => exact .sl k rows a cap b off vals hcap hn hk ha hc hr

/-- What a pointer points to. -/
theorem look_ok (m : Mem E H ι ρ w) {p : V} {x : Value} (hp : R w (foot ρ) ι p x) {agg : Option Nat} {v : V} (h : AM.load H agg p = some v) :
    ∃ b base off cs, x = .pointer (some ⟨b, base + off, none⟩) ∧ Reads w (foot ρ) ι b base cs ∧ loadFrom agg cs off = some v := by
  unfold AM.load at h
  split at h
  · rename_i i off
    split at h
    · rename_i cs hi
      obtain ⟨b, base, h1, rfl⟩ := hp.ptr_inv
      exact ⟨b, base, off, cs, rfl, m.reads hi h1, h⟩
    · cases h
  · rename_i row off
    obtain ⟨b, base, vals, rfl, hc, hr⟩ := hp.rp_inv
    refine ⟨b, base, off, row, rfl, fun j u hu => ⟨vals j, (hc j u hu).1, ?_⟩, h⟩
    exact .pr (hr j u hu).strip
  · cases h

theorem ld_ok (s : StA E nt φ H ρ ι a w [] []) {X : Operand} {x : AX} (hx : chkX X x = true) {t : TypeId} {agg : Option Nat} (ht : aggIs P t agg = true) (ho : o.op = .load t X) {v : V} (h : AM.load H agg (rd φ x) = some v) :
    Runs P o a w (After E nt φ H v ρ ι a w) := by
  obtain ⟨b, base, off, cs, e, hr, hl⟩ := look_ok s.mem (rd_ok s hx) h
  obtain ⟨y, hy, hR⟩ := run_loadVar (P := P) hr ht hl
  exact .value y (by simp [execOp, ho, e, Instr.loadAt, Instr.sureAddr, hy]) (.same s hR)

theorem fld_ok (s : StA E nt φ H ρ ι a w [] []) {X : Operand} {x : AX} (hx : chkX X x = true) {t : TypeId} {i off : Nat} {agg : Option Nat} (hf : structField P t i (fun f => f.offset == off && aggIs P f.type agg) = true) (ho : o.op = .field t X i)
    {cs : List V} (hr : rd φ x = .agg cs) {v : V} (h : loadFrom agg cs off = some v) : Runs P o a w (After E nt φ H v ρ ι a w) := by
  obtain ⟨xs, e, hs, hc⟩ := (hr ▸ rd_ok s hx).agg_inv
  unfold structField at hf
  split at hf <;> try cases hf
  rename_i fs et
  split at hf <;> try cases hf
  rename_i f ef
  simp only [Bool.and_eq_true, beq_iff_eq] at hf
  obtain ⟨rfl, hagg⟩ := hf
  have hg := aggIs_ok hagg w
  cases agg with
  | none =>
    simp only [loadFrom, Option.map_eq_some_iff] at h
    obtain ⟨u, hu, rfl⟩ := h
    have hlt := get_some hu
    have hx2 : xs[f.offset]? = some xs[f.offset] := by simp
    have hR := hc _ _ _ hu hx2
    refine .value xs[f.offset] (by simp [execOp, ho, e, Instr.field, underlying, et, ef, asAgg, part, hg, hs, hlt]) (.same s ?_)
    exact hR.RL.R
  | some n =>
    simp only [loadFrom] at h
    split at h
    · rename_i hn
      simp only [Option.some.injEq] at h
      subst h
      refine .value (.agg (xs.extract f.offset (f.offset + n))) (by simp [execOp, ho, e, Instr.field, underlying, et, ef, asAgg, part, hg.1, run_sizeOf hg.2]) (.same s (.agg _ _ ?_ fun j v y hv hy => ?_))
      · simp [allStrip]; omega
      · simp only [allStrip, List.getElem?_map, Option.map_eq_some_iff] at hv
        obtain ⟨u, hu, rfl⟩ := hv
        have hjn : j < n := by have := get_some hu; simp at this; omega
        rw [List.getElem?_take_of_lt hjn, List.getElem?_drop] at hu
        have hy2 : xs[f.offset + j]? = some y := by
          rw [Array.getElem?_extract] at hy
          split at hy
          · exact hy
          · cases hy
        exact (hc _ _ _ hu hy2).RL.R
    · cases h

theorem fa_ok (s : StA E nt φ H ρ ι a w [] []) {X : Operand} {x : AX} (hx : chkX X x = true) {t : TypeId} {i off : Nat} (hf : structField P t i (fun f => f.offset == off && (match P.info? f.type with | some q => q.size != 0 | none => false)) = true) (ho : o.op = .fieldAddr t X i)
    {v : V} (hv : (∃ j k, rd φ x = .ptr j k ∧ v = .ptr j (k + off)) ∨ (∃ r k, rd φ x = .rp r k ∧ v = .rp r (k + off)) ∨ ∃ i, rd φ x = .bptr i ∧ off = 0 ∧ v = .bptr i) : Runs P o a w (After E nt φ H v ρ ι a w) := by
  unfold structField at hf
  split at hf <;> try cases hf
  rename_i fs et
  split at hf <;> try cases hf
  rename_i f ef
  simp only [Bool.and_eq_true, beq_iff_eq] at hf
  obtain ⟨rfl, hf2⟩ := hf
  split at hf2 <;> try cases hf2
  rename_i q hq
  have hq0 : q.size ≠ 0 := by simpa using hf2
  have hX := rd_ok s hx
  have run : ∀ b k, a.eval X = .pointer (some ⟨b, k, none⟩) → (execOp a.eval o).run P w = .ok (.value (.pointer (some ⟨b, k + f.offset, none⟩))) w := by
    intro b k e
    simp [execOp, ho, e, Instr.fieldAt, underlying, et, ef, Instr.sureAddr, fieldPlace, sizeOf, typeInfo, hq, hq0, add_eq]
  rcases hv with ⟨j, k, h1, rfl⟩ | ⟨r, k, h1, rfl⟩ | ⟨i, h1, h0, rfl⟩
  · obtain ⟨b, base, h2, e⟩ := (h1 ▸ hX).ptr_inv
    refine .value _ (run b (base + k) e) (.same s ?_)
    have := R.ptr (w := w) (F := foot ρ) j (k + f.offset) b base h2
    rwa [← Nat.add_assoc] at this
  · obtain ⟨b, base, vals, e, hc, hr⟩ := (h1 ▸ hX).rp_inv
    refine .value _ (run b (base + k) e) (.same s ?_)
    have := R.rp (w := w) (F := foot ρ) (ι := ι) r (k + f.offset) b base vals hc hr
    rwa [← Nat.add_assoc] at this
  · obtain ⟨l, h2, e⟩ := (h1 ▸ hX).bptr_inv
    have := run l 0 e
    rw [h0] at this
    exact .value _ this (.same s (.bptr i l h2))

theorem index_ok (s : StA E nt φ H ρ ι a w [] []) {I : Operand} {i : AX} (hi : chkX I i = true) {n j : Nat} (h : index φ i n = some j) : ∃ k, a.eval I = .int k (j : Int) ∧ j < n := by
  unfold index at h
  split at h
  · rename_i k m e
    split at h
    · rename_i hm
      simp only [Option.some.injEq] at h
      subst h
      have hR := rd_ok s hi
      rw [e] at hR
      exact ⟨k, by rw [hR.int_inv]; congr 1; omega, by omega⟩
    · cases h
  · cases h

theorem run_indexAt_array {t e : TypeId} {len k : Nat} (ht : P.underlying t = some (.array len e)) (he : sizeIs P e k = true) (ad : Addr) (kk : IntKind) (j : Nat) (hj : j < len) :
    (Instr.indexAt t (.pointer (some ad)) (.int kk (j : Int))).run P w = .ok (.pointer (some (ad.add (j * k)))) w := by
  have h1 : (0 : Int) ≤ j ∧ (j : Int) < len := by omega
  simp [Instr.indexAt, asIntOf, underlying, ht, Instr.sureAddr, h1, run_sizeOf he, hj]

theorem run_indexAt_slice {t e : TypeId} {len cap k : Nat} (ht : P.underlying t = some (.slice e)) (he : sizeIs P e k = true) (ad : Addr) (kk : IntKind) (j : Nat) (hj : j < len) :
    (Instr.indexAt t (.slice (some ad) len cap) (.int kk (j : Int))).run P w = .ok (.pointer (some (ad.add (j * k)))) w := by
  have h1 : (0 : Int) ≤ j ∧ (j : Int) < len := by omega
  simp [Instr.indexAt, asIntOf, underlying, ht, h1, run_sizeOf he, hj]

theorem arrayIs_ok {t : TypeId} {n k : Nat} (h : arrayIs P t n k = true) : ∃ e, P.underlying t = some (.array n e) ∧ sizeIs P e k = true := by
  unfold arrayIs at h
  split at h
  · rename_i m e he
    simp only [Bool.and_eq_true, beq_iff_eq] at h
    obtain ⟨rfl, h⟩ := h
    exact ⟨e, he, h⟩
  · cases h

theorem isSlice_ok {t : TypeId} {k : Nat} (h : isSlice P t k = true) : ∃ e, P.underlying t = some (.slice e) ∧ sizeIs P e k = true := by
  unfold isSlice at h
  split at h
  · rename_i e he; exact ⟨e, he, h⟩
  · cases h

/-- The address of an element of an array of ours, or of a row that nobody writes. -/
theorem ixa_arr_ok (s : StA E nt φ H ρ ι a w [] []) {X I : Operand} {x i : AX} (hx : chkX X x = true) (hi : chkX I i = true) {t : TypeId} {n k : Nat} (ht : arrayIs P t n k = true) (ho : o.op = .indexAddr t X I) {j : Nat} (hj : index φ i n = some j)
    {v : V} (hv : (∃ b f, rd φ x = .ptr b f ∧ v = .ptr b (f + j * k)) ∨ ∃ r f, rd φ x = .rp r f ∧ v = .rp r (f + j * k)) : Runs P o a w (After E nt φ H v ρ ι a w) := by
  obtain ⟨e, het, hek⟩ := arrayIs_ok ht
  obtain ⟨kk, eI, hjn⟩ := index_ok s hi hj
  have hX := rd_ok s hx
  have run : ∀ b f, a.eval X = .pointer (some ⟨b, f, none⟩) → (execOp a.eval o).run P w = .ok (.value (.pointer (some ⟨b, f + j * k, none⟩))) w := by
    intro b f e
    have := run_indexAt_array (w := w) het hek ⟨b, f, none⟩ kk j hjn
    simp [execOp, ho, e, eI, this, add_eq]
  rcases hv with ⟨b0, f, h1, rfl⟩ | ⟨r, f, h1, rfl⟩
  · obtain ⟨b, base, h2, e⟩ := (h1 ▸ hX).ptr_inv
    refine .value _ (run b (base + f) e) (.same s ?_)
    have := R.ptr (w := w) (F := foot ρ) b0 (f + j * k) b base h2
    rwa [← Nat.add_assoc] at this
  · obtain ⟨b, base, vals, e, hc, hr⟩ := (h1 ▸ hX).rp_inv
    refine .value _ (run b (base + f) e) (.same s ?_)
    have := R.rp (w := w) (F := foot ρ) (ι := ι) r (f + j * k) b base vals hc hr
    rwa [← Nat.add_assoc] at this

theorem ixa_ms_ok (s : StA E nt φ H ρ ι a w [] []) {X I : Operand} {x i : AX} (hx : chkX X x = true) (hi : chkX I i = true) {t : TypeId} {k : Nat} (ht : isSlice P t k = true) (ho : o.op = .indexAddr t X I) {b0 f len cap j : Nat}
    (h1 : R w (foot ρ) ι (.ms b0 f len cap) (a.eval X)) (hj : index φ i len = some j) : Runs P o a w (After E nt φ H (.ptr b0 (f + j * k)) ρ ι a w) := by
  obtain ⟨e, het, hek⟩ := isSlice_ok ht
  obtain ⟨kk, eI, hjn⟩ := index_ok s hi hj
  obtain ⟨b, base, cap', ad, h2, hlc, _, had, _, eX⟩ := h1.ms_inv
  obtain rfl := had (by omega)
  have run := run_indexAt_slice (w := w) (cap := cap') het hek ⟨b, base + f, none⟩ kk j hjn
  refine .value (.pointer (some ⟨b, base + f + j * k, none⟩)) (by simp [execOp, ho, eX, eI, run, add_eq]) (.same s ?_)
  have := R.ptr (w := w) (F := foot ρ) b0 (f + j * k) b base h2
  rwa [← Nat.add_assoc] at this

theorem ixa_sl_ok (s : StA E nt φ H ρ ι a w [] []) {X I : Operand} {x i : AX} (hx : chkX X x = true) (hi : chkX I i = true) {t : TypeId} {k : Nat} (ht : isSlice P t k = true) (ho : o.op = .indexAddr t X I) {rows : List (List V)} {r : List V} {j : Nat}
    (h1 : rd φ x = .sl k rows) (hj : index φ i rows.length = some j) (hrow : rows[j]? = some r) : Runs P o a w (After E nt φ H (.rp r 0) ρ ι a w) := by
  obtain ⟨e, het, hek⟩ := isSlice_ok ht
  obtain ⟨kk, eI, hjn⟩ := index_ok s hi hj
  have hX := (h1 ▸ rd_ok s hx).sl_inv
  generalize hy : a.eval X = y at hX
  cases hX with
  | sl _ _ ad cap b off vals hcap hn hk ha hc hr =>
    have hne : rows ≠ [] := by rintro rfl; simp at hrow
    have hb := ha hne
    subst hb
    have run := run_indexAt_slice (w := w) (cap := cap) het hek ⟨b, off, none⟩ kk j hjn
    refine .value (.pointer (some ⟨b, off + j * k, none⟩)) (by simp [execOp, ho, hy, eI, run, add_eq]) (.same s ?_)
    have := R.rp (w := w) (F := foot ρ) (ι := ι) r 0 b (off + j * k) (vals j) (fun q v hq => hc j q r v hrow hq) (fun q v hq => hr j q r v hrow hq)
    simpa using this

theorem ixa_mix_ok (s : StA E nt φ H ρ ι a w [] []) {X I : Operand} {x i : AX} (hx : chkX X x = true) (hi : chkX I i = true) {t : TypeId} {k : Nat} (ht : isSlice P t k = true) (ho : o.op = .indexAddr t X I) {rows : List (List V)} {b0 n j : Nat}
    (h1 : rd φ x = .mix k rows b0 n) (hj : index φ i (rows.length + n) = some j) : Runs P o a w (After E nt φ H (match rows[j]? with | some r => .rp r 0 | none => .ptr b0 ((j - rows.length) * k)) ρ ι a w) := by
  obtain ⟨e, het, hek⟩ := isSlice_ok ht
  obtain ⟨kk, eI, hjn⟩ := index_ok s hi hj
  obtain ⟨b, off, cap, hpi, hlc, hP, _, eX⟩ := (h1 ▸ rd_ok s hx).mix_inv
  have run := run_indexAt_slice (w := w) (cap := cap) het hek ⟨b, off, none⟩ kk j hjn
  refine .value (.pointer (some ⟨b, off + j * k, none⟩)) (by simp [execOp, ho, eX, eI, run, add_eq]) (.same s ?_)
  cases hrow : rows[j]? with
  | some r =>
    generalize hy : Value.slice (some ⟨b, off, none⟩) rows.length cap = y at hP
    cases hP with
    | sl _ _ ad cap' b' off' vals hcap hn hk ha hc hr =>
      have hne : rows ≠ [] := by rintro rfl; simp at hrow
      have hb := ha hne
      simp only [Value.slice.injEq, true_and] at hy
      obtain ⟨rfl, rfl⟩ := hy
      simp only [Option.some.injEq, Addr.mk.injEq, and_true] at hb
      obtain ⟨rfl, rfl⟩ := hb
      have := R.rp (w := w) (F := foot ρ) (ι := ι) r 0 b (off + j * k) (vals j) (fun q v hq => hc j q r v hrow hq) (fun q v hq => hr j q r v hrow hq)
      simpa using this
  | none =>
    have hjl : rows.length ≤ j := by
      rcases Nat.lt_or_ge j rows.length with h | h
      · rw [List.getElem?_eq_getElem h] at hrow; cases hrow
      · exact h
    have := R.ptr (w := w) (F := foot ρ) b0 ((j - rows.length) * k) b (off + rows.length * k) hpi
    have e2 : off + rows.length * k + (j - rows.length) * k = off + j * k := by
      rw [Nat.add_assoc, ← Nat.add_mul, show rows.length + (j - rows.length) = j by omega]
    rwa [e2] at this

theorem nck_ok (s : StA E nt φ H ρ ι a w [] []) {X : Operand} {x : AX} (hx : chkX X x = true) (ho : o.op = .nilCheck X) {v : V}
    (hv : (∃ i k, rd φ x = .ptr i k) ∨ (∃ r k, rd φ x = .rp r k) ∨ (∃ f b c, rd φ x = .fn (.func f) b c) ∨ (∃ i, rd φ x = .yld i) ∨ ∃ i, rd φ x = .bptr i) (he : v = rd φ x) : Runs P o a w (After E nt φ H v ρ ι a w) := by
  subst he
  have hX := rd_ok s hx
  refine .value (a.eval X) ?_ (.same s hX)
  rcases hv with ⟨i, k, h1⟩ | ⟨r, k, h1⟩ | ⟨f, b, c, h1⟩ | ⟨i, h1⟩ | ⟨i, h1⟩
  · obtain ⟨b, base, _, e⟩ := (h1 ▸ hX).ptr_inv; simp [execOp, ho, e]
  · obtain ⟨b, base, vals, e, _, _⟩ := (h1 ▸ hX).rp_inv; simp [execOp, ho, e]
  · obtain ⟨xs, ys, e, _⟩ := (h1 ▸ hX).fn_inv; simp [execOp, ho, e]
  · obtain ⟨l, _, e⟩ := (h1 ▸ hX).yld_inv; simp [execOp, ho, e]
  · obtain ⟨l, _, e⟩ := (h1 ▸ hX).bptr_inv; simp [execOp, ho, e]

theorem ext_ok (s : StA E nt φ H ρ ι a w [] []) {X : Operand} {x : AX} (hx : chkX X x = true) {i : Nat} (ho : o.op = .extract X i) {vs : List V} {v : V} (h1 : rd φ x = .tup vs) (h2 : vs[i]? = some v) : Runs P o a w (After E nt φ H v ρ ι a w) := by
  obtain ⟨xs, e, hs, hc⟩ := (h1 ▸ rd_ok s hx).tup_inv
  have hlt := get_some h2
  have hx2 : xs[i]? = some xs[i] := by simp
  exact .value xs[i] (by simp [execOp, ho, e, Instr.extract, hs, hlt]) (.same s (hc _ _ _ h2 hx2))

theorem mkf_args : ∀ {Xs : List Operand} {xs : List AX}, chkXs Xs xs = true → StA E nt φ H ρ ι a w [] [] → Xs.length = xs.length ∧ ∀ (j : Nat) (v : V) (y : Value), (xs.map (rd φ))[j]? = some v → (Xs.map a.eval)[j]? = some y → R w (foot ρ) ι v y
  | [], [], _, _ => ⟨rfl, fun j v y h => by simp at h⟩
  | X :: Xs, x :: xs, h, s => by
    simp only [chkXs, Bool.and_eq_true] at h
    obtain ⟨h1, h2⟩ := mkf_args h.2 s
    refine ⟨by simp [h1], fun j v y hv hy => ?_⟩
    cases j with
    | zero => simp at hv hy; subst hv; subst hy; exact rd_ok s h.1
    | succ j => exact h2 j v y (by simpa using hv) (by simpa using hy)
  | [], _ :: _, h, _ => by simp [chkXs] at h
  | _ :: _, [], h, _ => by simp [chkXs] at h

theorem mkf_ok (s : StA E nt φ H ρ ι a w [] []) {f : Fn} {Xs Ys : Array Operand} {xs ys : List AX} (h1 : chkXs Xs.toList xs = true) (h2 : chkXs Ys.toList ys = true) (ho : o.op = .makeFunc f Xs Ys) :
    Runs P o a w (After E nt φ H (.fn f (xs.map (rd φ)) (ys.map (rd φ))) ρ ι a w) := by
  obtain ⟨l1, r1⟩ := mkf_args h1 s
  obtain ⟨l2, r2⟩ := mkf_args h2 s
  refine .value (.func f (Xs.map a.eval) (Ys.map a.eval)) (by simp [execOp, ho, Instr.makeFunc]) (.same s (.fn f _ _ _ _ (by simpa using l1) (by simpa using l2) (fun j v y hv hy => r1 j v y hv ?_) (fun j v y hv hy => r2 j v y hv ?_)))
  · rw [← hy]; simp
  · rw [← hy]; simp

end
end Go.AM
