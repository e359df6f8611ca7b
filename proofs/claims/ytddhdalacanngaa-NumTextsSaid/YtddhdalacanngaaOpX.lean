/-
  append, copy, clear; bytes and strings; a block that nobody writes any more.
-/
import Derived.Test.YtddhdalacanngaaOpW
set_option linter.unusedVariables false
set_option linter.unusedSimpArgs false
namespace Go.AM

def notInt (P : Program) (t : TypeId) : Bool :=
  match P.underlying t with
  | some (.int _) => false
  | some _ => true
  | none => false

/-- The element's size, and its zero's. -/
def elemIs (P : Program) (e : TypeId) (k bytes : Nat) : Bool :=
  match P.info? e with
  | some i => i.size == k && i.bytes == bytes && (match i.zero with | some z => z.cells.size == k | none => false)
  | none => false

def chkApp (P : Program) (ts : Array TypeId) (k bytes : Nat) : Bool :=
  match ts[0]?, ts[1]? with
  | some t, some u => sliceElem P t (fun e => elemIs P e k bytes) && notInt P u
  | _, _ => false

section
variable {P : Program} {nt : Nat} {φ : Fr} {H : Heap} {ρ : Own} {ι : Places} {a : Act} {w : World} {o : Oper}

theorem elemIs_ok {e : TypeId} {k bytes : Nat} (h : elemIs P e k bytes = true) : ∃ i z, P.info? e = some i ∧ i.size = k ∧ i.bytes = bytes ∧ i.zero = some z ∧ z.cells.size = k := by
  unfold elemIs at h
  split at h
  · rename_i i hi
    simp only [Bool.and_eq_true, beq_iff_eq] at h
    obtain ⟨⟨h1, h2⟩, h3⟩ := h
    split at h3
    · rename_i z hz; exact ⟨i, z, hi, h1, h2, hz, by simpa using h3⟩
    · cases h3
  · cases h

theorem sliceElem_ok {t : TypeId} {f : TypeId → Bool} (h : sliceElem P t f = true) : ∃ e, P.underlying t = some (.slice e) ∧ f e = true := by
  unfold sliceElem at h
  split at h
  · rename_i e he; exact ⟨e, he, h⟩
  · cases h

theorem notInt_ok {u : TypeId} (h : notInt P u = true) : ∃ d, P.underlying u = some d ∧ ∀ k, d ≠ .int k := by
  unfold notInt at h
  rcases e : P.underlying u with _ | d
  · rw [e] at h; cases h
  · rw [e] at h
    refine ⟨d, rfl, fun k hk => ?_⟩
    subst hk
    cases h

theorem chkApp_ok {ts : Array TypeId} {k bytes : Nat} (h : chkApp P ts k bytes = true) : ∃ t u e, ts[0]? = some t ∧ ts[1]? = some u ∧ P.underlying t = some (.slice e) ∧ elemIs P e k bytes = true ∧ notInt P u = true := by
  unfold chkApp at h
  split at h
  · rename_i t u ht hu
    simp only [Bool.and_eq_true] at h
    obtain ⟨e, he, h2⟩ := sliceElem_ok h.1
    exact ⟨t, u, e, ht, hu, he, h2, h.2⟩
  · cases h

theorem run_app_in {ts : Array TypeId} {k bytes : Nat} (hc : chkApp P ts k bytes = true) (ty : TypeId) (ad : Option Addr) (len cap n : Nat) (x : Value) (ys : Array Value) (hl : (Builtin.lenOf x).run P w = .ok n w) (hf : (Builtin.firstCells k n x).run P w = .ok ys w) (hcap : len + n ≤ cap) :
    (Builtin.append_ ts ty #[.slice ad len cap, x]).run P w = match ad with
      | some b => ((storeCells (b.add (len * k)) ys.toList).run P w).andThen fun _ w' => .ok (.slice ad (len + n) cap) w'
      | none => .ok (.slice ad (len + n) cap) w := by
  obtain ⟨t, u, e, h1, h2, h3, h4, h5⟩ := chkApp_ok hc
  obtain ⟨i, z, hi, hs, hb, hz, hzs⟩ := elemIs_ok h4
  subst hs
  obtain ⟨d, hd, hdn⟩ := notInt_ok h5
  cases ad with
  | none => simp [Builtin.append_, h1, h2, run_underlying h3, run_underlying hd, sizeOf, typeInfo, zeroValue, hi, hz, hl, hcap, hf]
  | some b => simp [Builtin.append_, h1, h2, run_underlying h3, run_underlying hd, sizeOf, typeInfo, zeroValue, hi, hz, hl, hcap, hf]

theorem run_app_grow {ts : Array TypeId} {k bytes : Nat} (hc : chkApp P ts k bytes = true) (ty : TypeId) (ad : Option Addr) (len cap n : Nat) (x : Value) (old ys : Array Value) (hl : (Builtin.lenOf x).run P w = .ok n w) (ho : (Builtin.firstCells k len (.slice ad len cap)).run P w.drew = .ok old w.drew)
    (hf : (Builtin.firstCells k n x).run P w.drew = .ok ys w.drew) (hcap : cap < len + n) (hb : 2 * (len + n) * bytes ≤ 2 ^ 48) (hb0 : 0 < bytes) :
    ∃ e c rest, len + n ≤ c ∧ rest.size = (c - (len + n)) * k ∧ (Builtin.append_ ts ty #[.slice ad len cap, x]).run P w = .ok (.slice (some ⟨w.heap.size, 0, none⟩) (len + n) c) (w.drew.alloc (.cells (old ++ ys ++ rest) e)) := by
  obtain ⟨t, u, e, h1, h2, h3, h4, h5⟩ := chkApp_ok hc
  obtain ⟨i, z, hi, hs, hbs, hz, hzs⟩ := elemIs_ok h4
  subst hs
  subst hbs
  obtain ⟨d, hd, hdn⟩ := notInt_ok h5
  have hn : ¬ (len + n ≤ cap) := by omega
  have hx : Builtin.nextslicecap (len + n) cap ≤ 2 * (len + n) := nextslicecap_le hcap
  have h48 : ¬ (281474976710656 < Builtin.nextslicecap (len + n) cap * i.bytes) := by
    have := Nat.mul_le_mul_right i.bytes hx
    omega
  have hbn : ¬ i.bytes = 0 := by omega
  have hcapn : len + n ≤ grownCap w (len + n) cap e := by
    unfold grownCap Question.cut
    simp
  refine ⟨e, grownCap w (len + n) cap e, Builtin.zeroCells z.cells (grownCap w (len + n) cap e - (len + n)), hcapn, by simp [Builtin.zeroCells, hzs], ?_⟩
  simp [Builtin.append_, h1, h2, run_underlying h3, run_underlying hd, sizeOf, typeInfo, zeroValue, hi, hz, hl, hn, h48, hbn, Question.forced, ho, hf, newRow, grownCap]

/-- An own list's new tail, in a world where some of the old one was written. -/
theorem Mem.tail {H : Heap} {ι : Places} {ρ ρ' : Own} {w w' : World} (m : Mem H ι ρ w) {b off : Nat} {xs : List Value} (hw : Wrote w w' b off xs) (hb : ∀ i n, ρ (.blk i) ≠ some (b, n)) (h1 : ∀ i, ρ' (.blk i) = ρ (.blk i)) (h2 : ∀ i j, ρ' (.cell i j) = ρ (.cell i j)) (g : Goes ρ ι w ρ' ι w') : Mem H ι ρ' w' := by
  refine ⟨m.len, fun i vs hi => ?_, fun i hi => ?_, fun i vs j hi hj => ?_⟩
  · obtain ⟨b1, base, c, t, fr, q1, q2, q3, q4, q5, q6⟩ := m.blk i vs hi
    have hne : b1 ≠ b := by rintro rfl; exact hb _ _ q2
    refine ⟨b1, base, c, t, fr, q1, by rw [h1]; exact q2, by rw [hw.other _ hne]; exact q3, q4, fun o r1 r2 => by rw [g.kp.frozen q3]; exact q5 o r1 r2, fun j v hj => ?_⟩
    obtain ⟨x, hx, hr, hu⟩ := q6 j v hj
    exact ⟨x, hx, by rw [h2]; exact hr.ext g, hu⟩
  · rw [h1]; exact ⟨(m.dead i hi).1, fun j => by rw [h2]; exact (m.dead i hi).2 j⟩
  · rw [h2]; exact m.past i vs j hi hj

theorem PR.append {F : Nat → Nat → Prop} {k b off cap : Nat} {rows new : List (List V)} (h : PR w F (.sl k rows) (.slice (some ⟨b, off, none⟩) rows.length cap)) (hk : ∀ r ∈ new, r.length = k) (hcap : rows.length + new.length ≤ cap)
    (hn : ∀ (i j : Nat) (r : List V) (v : V), new[i]? = some r → r[j]? = some v → ∃ y, w.cell? ⟨b, off + (rows.length + i) * k + j, none⟩ = some y ∧ ¬ F b (off + (rows.length + i) * k + j) ∧ PR w F v y) :
    PR w F (.sl k (rows ++ new)) (.slice (some ⟨b, off, none⟩) (rows.length + new.length) cap) := by
  generalize hx : Value.slice (some ⟨b, off, none⟩) rows.length cap = x at h
  cases h with
  | sl _ _ ad cap' b' off' vals hcap' hn' hk' ha hc hr =>
    simp only [Value.slice.injEq, true_and] at hx
    obtain ⟨rfl, rfl⟩ := hx
    have hbo : rows ≠ [] → b = b' ∧ off = off' := fun hne => by have := ha hne; simpa using this
    have key : ∀ (i j : Nat) (r : List V) (v : V), (rows ++ new)[i]? = some r → r[j]? = some v → ∃ y, w.cell? ⟨b, off + i * k + j, none⟩ = some y ∧ ¬ F b (off + i * k + j) ∧ PR w F v y := by
      intro i j r v hi hj
      by_cases h1 : i < rows.length
      · rw [List.getElem?_append_left h1] at hi
        have hne : rows ≠ [] := by rintro rfl; simp at h1
        obtain ⟨rfl, rfl⟩ := hbo hne
        exact ⟨_, (hc i j r v hi hj).1, (hc i j r v hi hj).2, hr i j r v hi hj⟩
      · rw [List.getElem?_append_right (by omega)] at hi
        have := hn (i - rows.length) j r v hi hj
        rwa [show rows.length + (i - rows.length) = i by omega] at this
    have hex : ∀ i j, ∃ y, ∀ r v, (rows ++ new)[i]? = some r → r[j]? = some v → w.cell? ⟨b, off + i * k + j, none⟩ = some y ∧ ¬ F b (off + i * k + j) ∧ PR w F v y := by
      intro i j
      by_cases h1 : ∃ r v, (rows ++ new)[i]? = some r ∧ r[j]? = some v
      · obtain ⟨r, v, h2, h3⟩ := h1
        obtain ⟨y, hy⟩ := key i j r v h2 h3
        exact ⟨y, fun r' v' h4 h5 => by rw [h2] at h4; cases h4; rw [h3] at h5; cases h5; exact hy⟩
      · exact ⟨default, fun r v h2 h3 => absurd ⟨r, v, h2, h3⟩ h1⟩
    have := PR.sl (w := w) (F := F) k (rows ++ new) (some ⟨b, off, none⟩) cap b off (fun i j => (hex i j).choose) (by simpa using hcap) (fun h => by cases h)
      (fun r hr => by rcases List.mem_append.1 hr with h | h; exact hk' r h; exact hk r h) (fun _ => rfl)
      (fun i j r v hi hj => ⟨((hex i j).choose_spec r v hi hj).1, ((hex i j).choose_spec r v hi hj).2.1⟩) (fun i j r v hi hj => ((hex i j).choose_spec r v hi hj).2.2)
    simpa using this

theorem chunk_flatten {k : Nat} : ∀ {rows : List (List V)} (pre : List V), (∀ r ∈ rows, r.length = k) → chunk k (pre ++ rows.flatten) pre.length rows.length = rows
  | [], pre, _ => rfl
  | r :: rows, pre, hk => by
    have hr := hk r (by simp)
    simp only [List.length_cons, chunk, List.flatten_cons]
    have h1 : ((pre ++ (r ++ rows.flatten)).drop pre.length).take k = r := by
      rw [List.drop_left, ← hr, List.take_left]
    have h2 := chunk_flatten (rows := rows) (pre ++ r) (fun r hr => hk r (by simp [hr]))
    rw [h1]
    rw [List.length_append, hr, List.append_assoc] at h2
    rw [h2]

theorem StA.drop {us : List V} {zs : List Value} (s : StA nt φ H ρ ι a w us zs) (hus : us.length ≤ 1) : ∃ ρ', StA nt φ H ρ' ι a w [] [] ∧ Goes ρ ι w ρ' ι w := by
  match us, zs, s with
  | [], [], s => exact ⟨ρ, s, .refl _ _ _⟩
  | [v], [x], s =>
    obtain ⟨ρ', s', g⟩ := s.put none (by simp)
    exact ⟨ρ', s', g⟩
  | [], _ :: _, s => have := s.al; simp at this
  | [_], [], s => have := s.al; simp at this
  | [_], _ :: _ :: _, s => have := s.al; simp at this
  | _ :: _ :: _, _, _ => simp at hus

theorem Cells.append {F : Nat → Nat → Prop} {vs us : List V} {xs ys : Array Value} (h : Cells w F ι vs xs) (h' : Cells w F ι us ys) : Cells w F ι (vs ++ us) (xs ++ ys) := by
  refine ⟨by simp [h.1, h'.1], fun j v x hv hx => ?_⟩
  by_cases hj : j < vs.length
  · rw [List.getElem?_append_left hj] at hv
    rw [Array.getElem?_append_left (by rw [h.1]; exact hj)] at hx
    exact h.2 j v x hv hx
  · rw [List.getElem?_append_right (by omega)] at hv
    rw [Array.getElem?_append_right (by rw [h.1]; omega), h.1] at hx
    exact h'.2 _ v x hv hx

theorem plain_get {new : List (List V)} (h : (new.all fun r => r.all V.plain) = true) {i j : Nat} {r : List V} {v : V} (hi : new[i]? = some r) (hj : r[j]? = some v) : v.plain = true := by
  have h1 := List.all_eq_true.1 h r (List.mem_of_getElem? hi)
  exact List.all_eq_true.1 h1 v (List.mem_of_getElem? hj)

theorem PR_plain {F : Nat → Nat → Prop} {v : V} {x : Value} (h : PR w F v x) : v.plain = true := by cases h <;> rfl

theorem PR.rows_plain {F : Nat → Nat → Prop} {k : Nat} {rows : List (List V)} {x : Value} (h : PR w F (.sl k rows) x) {i j : Nat} {r : List V} {v : V} (hi : rows[i]? = some r) (hj : r[j]? = some v) : v.plain = true := by
  cases h with
  | sl _ _ ad cap b off vals hcap hn hk ha hc hr => exact PR_plain (hr i j r v hi hj)

theorem plain_one {v : V} (h : v.plain = true) : v.one = true := by cases v <;> first | rfl | cases h

theorem app_ok (s : StA nt φ H ρ ι a w [] []) {S X : Operand} {sx x : AX} (hS : chkX S sx = true) (hX : chkX X x = true) {ts : Array TypeId} {k bytes : Nat} (hc : chkApp P ts k bytes = true)
    (ho : o.op = .call { callee := .builtin .append, args := #[S, X], argTypes := ts }) {rows new : List (List V)} {φ' : Fr} (ht : takeX φ sx = (.own k rows, φ')) (hn : rowsOf H k (rd φ' x) = some new) (hb : 2 * (rows.length + new.length) * bytes ≤ 2 ^ 48) (hb0 : 0 < bytes)
    (hp : (new.all fun r => r.all V.plain) = true) : Runs P o a w (After nt φ' H (.own k (rows ++ new)) ρ ι a w) := by
  obtain ⟨ρ1, s1, g1⟩ := take_ok s hS
  rw [ht] at s1
  simp only [List.nil_append] at s1
  obtain ⟨hPR, ad, cap, eS, htl⟩ := s1.ar 0 _ _ rfl rfl
  obtain ⟨hl, hw, hcells⟩ := src_ok (P := P) s1 hX hn
  obtain ⟨ys, hf, hys⟩ := hcells new.length (Nat.le_refl _)
  rw [List.take_length] at hys
  have hnl := flatten_len hw
  have run0 : ∀ r, (Builtin.append_ ts o.type #[a.eval S, a.eval X]).run P w = r → (execOp a.eval o).run P w = r.andThen fun v w' => .ok (.value v) w' := by
    intro r hr
    simp only [execOp, ho, resolve, Sem.run_bind, Sem.run_pure, Result.andThen, invoke, builtin]
    have : (#[S, X] : Array Operand).map a.eval = #[a.eval S, a.eval X] := by simp
    rw [this, hr]
  rw [eS] at run0 hPR
  by_cases hcap : rows.length + new.length ≤ cap
  · have run1 := run_app_in (w := w) hc o.type ad rows.length cap new.length (a.eval X) ys hl hf hcap
    cases htl0 : ρ1 (.arg 0) with
    | none =>
      rw [htl0] at htl
      simp only at htl
      have h0 : new = [] := List.eq_nil_of_length_eq_zero (by omega)
      subst h0
      have hy0 : ys = #[] := by have := hys.1; simpa using this
      subst hy0
      refine .value (.slice ad rows.length cap) (w1 := w) ?_ ⟨ρ1, ι, ?_, g1⟩
      · rw [run0 _ run1]
        cases ad <;> simp [storeCells]
      · rw [eS] at s1; simpa using s1
    | some p =>
      obtain ⟨b, n0⟩ := p
      rw [htl0] at htl
      obtain ⟨off, c, t, fr, rfl, rfl, hrow, hsz, hfz⟩ := htl
      simp only at run1
      have hck : rows.length * k + new.length * k ≤ cap * k := by rw [← Nat.add_mul]; exact Nat.mul_le_mul_right k hcap
      obtain ⟨w', runS, hw'⟩ := run_storeCells (P := P) ys.toList (off + rows.length * k) 0 w c t fr hrow (by simp [hys.1, hnl]; omega) (fun o h1 h2 => hfz o (by omega) h2) (fun z hz => by
        obtain ⟨j, hj⟩ := List.getElem?_of_mem hz
        have hj2 : ys[j]? = some z := by simpa using hj
        have hlt : j < new.flatten.length := by have := get_some hj; rw [← hys.1]; simpa using this
        obtain ⟨_, r, q1, q2⟩ := flatten_get hw j new.flatten[j] (by simp)
        have hpl := plain_get hp q1 q2
        exact one_cell (hys.2 j _ z (List.getElem?_eq_getElem hlt) hj2) (plain_one hpl))
      rw [Nat.add_zero] at hw'
      have harg : ∀ l p, ρ1.put (.arg 0) (some (b, off + (rows.length + new.length) * k)) l = some p → (l = .arg 0 ∧ p = (b, off + (rows.length + new.length) * k)) ∨ (l ≠ .arg 0 ∧ ρ1 l = some p) := by
        intro l p h
        by_cases hl : l = .arg 0
        · subst hl; rw [Own.put_same] at h; exact .inl ⟨rfl, by simpa using h.symm⟩
        · rw [Own.put_other _ _ hl] at h; exact .inr ⟨hl, h⟩
      have g : Goes ρ1 ι w (ρ1.put (.arg 0) (some (b, off + (rows.length + new.length) * k))) ι w' := by
        refine ⟨wrote_kp hw' htl0 (Nat.le_refl _), fun _ _ h => h, fun l b' q h => ?_, fun _ => Own.put_other _ _ (by simp)⟩
        rcases harg l _ h with ⟨_, h1⟩ | ⟨_, h1⟩
        · simp only [Prod.mk.injEq] at h1; obtain ⟨rfl, rfl⟩ := h1; exact .inr ⟨.arg 0, _, htl0, by rw [Nat.add_mul]; omega⟩
        · exact .inr ⟨l, q, h1, Nat.le_refl _⟩
      have hnf : ∀ o, foot (ρ1.put (.arg 0) (some (b, off + (rows.length + new.length) * k))) b o → off + (rows.length + new.length) * k ≤ o := by
        rintro o ⟨l, q, hl, hq⟩
        rcases harg l _ hl with ⟨_, h1⟩ | ⟨h0, h1⟩
        · simp only [Prod.mk.injEq] at h1; omega
        · exact absurd (s1.sep.one _ _ _ _ _ h1 htl0) h0
      refine .value (.slice (some ⟨b, off, none⟩) (rows.length + new.length) cap) (w1 := w') (by rw [run0 _ run1, add_eq, runS]; rfl) ⟨_, ι, ⟨s1.sz, s1.df, fun q => ?_, rfl, fun j u z h1 h2 => ?_, fun j hj => ?_, ?_, ⟨fun l l' b1 q q' h h' => ?_, fun l b1 q h => ?_⟩⟩, g1.trans g⟩
      · rw [Own.put_other _ _ (by simp)]; exact (s1.sl q).ext g
      · cases j with
        | zero =>
          simp at h1 h2; subst h1; subst h2
          rw [Own.put_same]
          obtain ⟨c', hrow', hsz', hget⟩ := hw'.row c t fr hrow
          refine ⟨?_, some ⟨b, off, none⟩, cap, by simp, off, c', t, fr, rfl, by simp, hrow', by omega, fun o q1 q2 => by rw [g.kp.frozen hrow]; exact hfz o (by have := Nat.add_mul rows.length new.length k; omega) (by omega)⟩
          refine (hPR.ext g).append hw hcap (fun i j r v hi hj => ?_)
          have hil := get_some hi
          have hjl := get_some hj
          have hrk := hw r (List.mem_of_getElem? hi)
          have hq := flatten_at hw i j r v hi hj
          have hql := get_some hq
          rw [← hys.1] at hql
          have hiq : i * k + k ≤ new.length * k := by
            have := Nat.mul_le_mul_right k (show i + 1 ≤ new.length by omega)
            rw [Nat.add_mul] at this; omega
          have h3 := Nat.add_mul rows.length i k
          have h4 := Nat.add_mul rows.length new.length k
          refine ⟨ys[i * k + j], ?_, fun hff => ?_, ?_⟩
          · rw [cell_of_obj hrow', hget _ (by omega), if_pos (by simp; omega)]
            rw [show off + (rows.length + i) * k + j - (off + rows.length * k) = i * k + j by omega]
            simp [hql]
          · have := hnf _ hff; omega
          · exact plain_PR ((hys.2 _ v _ hq (by simp [hql])).ext g) (plain_get hp hi hj)
        | succ j => simp at h1
      · rw [Own.put_other _ _ (by simp at hj ⊢; omega)]; exact s1.an j hj
      · exact s1.mem.tail hw' (fun i n h => by have := s1.sep.one _ _ _ _ _ h htl0; simp at this) (fun _ => Own.put_other _ _ (by simp)) (fun _ _ => Own.put_other _ _ (by simp)) g
      · rcases harg l _ h with ⟨rfl, h1⟩ | ⟨h0, h1⟩ <;> rcases harg l' _ h' with ⟨rfl, h2⟩ | ⟨h0', h2⟩
        · rfl
        · simp only [Prod.mk.injEq] at h1; obtain ⟨rfl, _⟩ := h1; exact absurd (s1.sep.one _ _ _ _ _ h2 htl0) h0'
        · simp only [Prod.mk.injEq] at h2; obtain ⟨rfl, _⟩ := h2; exact absurd (s1.sep.one _ _ _ _ _ h1 htl0) h0
        · exact s1.sep.one _ _ _ _ _ h1 h2
      · have := hw'.size
        rcases harg l _ h with ⟨_, h1⟩ | ⟨_, h1⟩
        · simp only [Prod.mk.injEq] at h1; obtain ⟨rfl, _⟩ := h1; have := lt_of_obj hrow; omega
        · have := s1.sep.here _ _ _ h1; omega
  · obtain ⟨ρ0, s0, g0⟩ := s1.drop (by simp)
    have kd := kp_drew (fun _ _ => False) w
    have gd : Goes ρ0 ι w ρ0 ι w.drew := ⟨kp_drew _ w, fun _ _ h => h, fun l b q h => .inr ⟨l, q, h, Nat.le_refl _⟩, fun _ => rfl⟩
    have sD := s0.go gd (fun _ => rfl) (fun _ => rfl) (s0.mem.kp kd (fun _ => rfl) (fun _ _ => rfl) gd) ⟨s0.sep.one, s0.sep.here⟩
    have hPD := (hPR.ext g0).ext gd
    obtain ⟨_, hwD, hcellsD⟩ := src_ok (P := P) sD hX hn
    obtain ⟨ys', hfD, hysD⟩ := hcellsD new.length (Nat.le_refl _)
    rw [List.take_length] at hysD
    obtain ⟨_, hwo, hold⟩ := Src.sl (P := P) (ι := ι) hPD
    obtain ⟨old, hfo, holdc⟩ := hold rows.length (Nat.le_refl _)
    rw [List.take_length] at holdc
    obtain ⟨e, c, rest, hc1, hc2, run1⟩ := run_app_grow (w := w) hc o.type ad rows.length cap new.length (a.eval X) old ys' hl hfo hfD (by omega) hb hb0
    have hwa : ∀ r ∈ rows ++ new, r.length = k := fun r hr => by rcases List.mem_append.1 hr with h | h; exact hwo r h; exact hw r h
    have hall := holdc.append hysD
    rw [← List.flatten_append] at hall
    have hfl := flatten_len hwa
    rw [List.length_append] at hfl
    have hxs : (old ++ ys' ++ rest).size = c * k := by
      rw [Array.size_append, hall.1, hfl, hc2, ← Nat.add_mul]; congr 1; omega
    obtain ⟨ρ', s', g'⟩ := sD.fresh (w' := w.drew.alloc (.cells (old ++ ys' ++ rest) e)) (kp_alloc _ _ _) (some ((rows.length + new.length) * k)) (fun _ => by simp) (v := .own k (rows ++ new)) (x := .slice (some ⟨w.heap.size, 0, none⟩) (rows.length + new.length) c) (fun F' hF => by
      have hR := new_rows (k := k) (n := rows.length + new.length) (cap := c) (cells := (rows ++ new).flatten) (xs := old ++ ys' ++ rest) (t := e) (w := w.drew) (F := foot ρ0) (w' := w.drew.alloc (.cells (old ++ ys' ++ rest) e)) (F' := F')
        (fun j v x hv hx => by
          have hjl := get_some hv
          rw [Array.getElem?_append_left (by rw [hall.1]; exact hjl)] at hx
          have hRR := hall.2 j v x hv hx
          obtain ⟨_, r, q1, q2⟩ := flatten_get hwa j v hv
          refine plain_PR hRR ?_
          by_cases hjr : j / k < rows.length
          · rw [List.getElem?_append_left hjr] at q1
            exact hPD.rows_plain q1 q2
          · rw [List.getElem?_append_right (by omega)] at q1
            exact plain_get hp q1 q2) (by omega) (by rw [hxs, hfl]; exact Nat.mul_le_mul_right k hc1) hc1 (heap_alloc_new w.drew _) (fun o ho1 h => by
          rcases (hF _ _).1 h with ⟨l, q, hl, _⟩ | ⟨m, h1, _, h3⟩
          · have := sD.sep.here _ _ _ hl; omega
          · simp at h1; omega) (fresh_mono (kp_alloc _ _ _) _ hF)
      have hch := chunk_flatten (k := k) (rows := rows ++ new) [] hwa
      simp only [List.nil_append, List.length_nil, List.length_append] at hch
      rw [hch] at hR
      refine ⟨hR, some ⟨w.heap.size, 0, none⟩, c, by simp, 0, old ++ ys' ++ rest, e, (0, 0), rfl, by simp, heap_alloc_new w.drew _, by rw [hxs]; simp, fun o _ _ => ?_⟩
      exact World.frozen?_alloc_new _ _ _ o)
    exact .value _ (by rw [run0 _ run1]; rfl) ⟨ρ', ι, s', ((g1.trans g0).trans gd).trans g'⟩

end
end Go.AM
