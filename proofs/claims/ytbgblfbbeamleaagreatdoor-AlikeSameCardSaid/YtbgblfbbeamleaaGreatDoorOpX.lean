/-
  append, copy, clear; bytes and strings; a block that nobody writes any more.
-/
import Derived.Test.YtbgblfbbeamleaaGreatDoorOpW
set_option linter.unusedVariables false
set_option linter.unusedSimpArgs false
namespace Go.AM

def notInt (P : Program) (t : TypeId) : Bool :=
  match P.underlying t with
  | some (.int _) => false
  | some _ => true
  | none => false

/-- The element's size, and its zero's. -/
def elemIs (P : Program) (e : TypeId) (k bytes : Nat) : Bool :=
  match P.info? e with
  | some i => i.size == k && i.bytes == bytes && (match i.zero with | some z => z.cells.size == k | none => false)
  | none => false

def chkApp (P : Program) (ts : Array TypeId) (k bytes : Nat) : Bool :=
  match ts[0]?, ts[1]? with
  | some t, some u => sliceElem P t (fun e => elemIs P e k bytes) && notInt P u
  | _, _ => false

section
variable {P : Program} {E : LblP} {nt : Cx} {φ : Fr} {H : Heap} {ρ : Own} {ι : Places} {a : Act} {w : World} {o : Oper}

theorem elemIs_ok {e : TypeId} {k bytes : Nat} (h : elemIs P e k bytes = true) : ∃ i z, P.info? e = some i ∧ i.size = k ∧ i.bytes = bytes ∧ i.zero = some z ∧ z.cells.size = k := by
  unfold elemIs at h
  split at h
  · rename_i i hi
    simp only [Bool.and_eq_true, beq_iff_eq] at h
    obtain ⟨⟨h1, h2⟩, h3⟩ := h
    split at h3
    · rename_i z hz; exact ⟨i, z, hi, h1, h2, hz, by simpa using h3⟩
    · cases h3
  · cases h

theorem sliceElem_ok {t : TypeId} {f : TypeId → Bool} (h : sliceElem P t f = true) : ∃ e, P.underlying t = some (.slice e) ∧ f e = true := by
  unfold sliceElem at h
  split at h
  · rename_i e he; exact ⟨e, he, h⟩
  · cases h

theorem notInt_ok {u : TypeId} (h : notInt P u = true) : ∃ d, P.underlying u = some d ∧ ∀ k, d ≠ .int k := by
  unfold notInt at h
  rcases e : P.underlying u with _ | d
  · rw [e] at h; cases h
  · rw [e] at h
    refine ⟨d, rfl, fun k hk => ?_⟩
    subst hk
    cases h

theorem chkApp_ok {ts : Array TypeId} {k bytes : Nat} (h : chkApp P ts k bytes = true) : ∃ t u e, ts[0]? = some t ∧ ts[1]? = some u ∧ P.underlying t = some (.slice e) ∧ elemIs P e k bytes = true ∧ notInt P u = true := by
  unfold chkApp at h
  split at h
  · rename_i t u ht hu
    simp only [Bool.and_eq_true] at h
    obtain ⟨e, he, h2⟩ := sliceElem_ok h.1
    exact ⟨t, u, e, ht, hu, he, h2, h.2⟩
  · cases h

theorem run_app_in {ts : Array TypeId} {k bytes : Nat} (hc : chkApp P ts k bytes = true) (ty : TypeId) (ad : Option Addr) (len cap n : Nat) (x : Value) (ys : Array Value) (hl : (Builtin.lenOf x).run P w = .ok n w) (hf : (Builtin.firstCells k n x).run P w = .ok ys w) (hcap : len + n ≤ cap) :
    (Builtin.append_ ts ty #[.slice ad len cap, x]).run P w = match ad with
      | some b => ((storeCells (b.add (len * k)) ys.toList).run P w).andThen fun _ w' => .ok (.slice ad (len + n) cap) w'
      | none => .ok (.slice ad (len + n) cap) w := by
  obtain ⟨t, u, e, h1, h2, h3, h4, h5⟩ := chkApp_ok hc
  obtain ⟨i, z, hi, hs, hb, hz, hzs⟩ := elemIs_ok h4
  subst hs
  obtain ⟨d, hd, hdn⟩ := notInt_ok h5
  cases ad with
  | none => simp [Builtin.append_, h1, h2, run_underlying h3, run_underlying hd, sizeOf, typeInfo, zeroValue, hi, hz, hl, hcap, hf]
  | some b => simp [Builtin.append_, h1, h2, run_underlying h3, run_underlying hd, sizeOf, typeInfo, zeroValue, hi, hz, hl, hcap, hf]

theorem run_app_grow {ts : Array TypeId} {k bytes : Nat} (hc : chkApp P ts k bytes = true) (ty : TypeId) (ad : Option Addr) (len cap n : Nat) (x : Value) (old ys : Array Value) (hl : (Builtin.lenOf x).run P w = .ok n w) (ho : (Builtin.firstCells k len (.slice ad len cap)).run P w.drew = .ok old w.drew)
    (hf : (Builtin.firstCells k n x).run P w.drew = .ok ys w.drew) (hcap : cap < len + n) (hb : 2 * (len + n) * bytes ≤ 2 ^ 48) (hb0 : 0 < bytes) :
    ∃ e c rest, len + n ≤ c ∧ rest.size = (c - (len + n)) * k ∧ (Builtin.append_ ts ty #[.slice ad len cap, x]).run P w = .ok (.slice (some ⟨w.heap.size, 0, none⟩) (len + n) c) (w.drew.alloc (.cells (old ++ ys ++ rest) e)) := by
  obtain ⟨t, u, e, h1, h2, h3, h4, h5⟩ := chkApp_ok hc
  obtain ⟨i, z, hi, hs, hbs, hz, hzs⟩ := elemIs_ok h4
  subst hs
  subst hbs
  obtain ⟨d, hd, hdn⟩ := notInt_ok h5
  have hn : ¬ (len + n ≤ cap) := by omega
  have hx : Builtin.nextslicecap (len + n) cap ≤ 2 * (len + n) := nextslicecap_le hcap
  have h48 : ¬ (281474976710656 < Builtin.nextslicecap (len + n) cap * i.bytes) := by
    have := Nat.mul_le_mul_right i.bytes hx
    omega
  have hbn : ¬ i.bytes = 0 := by omega
  have hcapn : len + n ≤ grownCap w (len + n) cap e := by
    unfold grownCap Question.cut
    simp
  refine ⟨e, grownCap w (len + n) cap e, Builtin.zeroCells z.cells (grownCap w (len + n) cap e - (len + n)), hcapn, by simp [Builtin.zeroCells, hzs], ?_⟩
  simp [Builtin.append_, h1, h2, run_underlying h3, run_underlying hd, sizeOf, typeInfo, zeroValue, hi, hz, hl, hn, h48, hbn, Question.forced, ho, hf, newRow, grownCap]

/-- An own list's new tail, in a world where some of the old one was written. -/
theorem Mem.tail {E : LblP} {H : Heap} {ι : Places} {ρ ρ' : Own} {w w' : World} (m : Mem E H ι ρ w) {b off : Nat} {xs : List Value} (hw : Wrote w w' b off xs) (hb : ∀ k n, ρ k = some (b, n) → k = .arg 0) (h1 : ∀ i, ρ' (.blk i) = ρ (.blk i)) (h2 : ∀ i j, ρ' (.cell i j) = ρ (.cell i j)) (g : Goes ρ ι w ρ' ι w') : Mem E H ι ρ' w' := by
  refine ⟨m.len, fun i vs hi hne => ?_, fun i vs l hi hl => ?_, fun i hi => ?_, fun i vs j hi hj => ?_, m.glo.ext g, m.lim⟩
  · obtain ⟨b1, base, c, t, fr, q1, q2, q3, q4, q5, q6⟩ := m.blk i vs hi hne
    have hne : b1 ≠ b := by rintro rfl; cases hb _ _ q2
    refine ⟨b1, base, c, t, fr, q1, by rw [h1]; exact q2, by rw [hw.other _ hne]; exact q3, q4, fun o r1 r2 => by rw [hw.marks b1]; exact q5 o r1 r2, fun j v hj => ?_⟩
    obtain ⟨x, hx, hr, hu⟩ := q6 j v hj
    exact ⟨x, hx, by rw [h2]; exact hr.ext g (h2 i j), hu⟩
  · refine (m.rcd i vs l hi hl).ext g (h1 i) (h2 i) (fun k' b1 n1 hk1 hb1 => hw.other _ ?_)
    rintro rfl
    have := hb _ _ hb1
    rcases hk1 with rfl | ⟨j, rfl⟩ <;> cases this
  · rw [h1]; exact ⟨(m.dead i hi).1, fun j => by rw [h2]; exact (m.dead i hi).2 j⟩
  · rw [h2]; exact m.past i vs j hi hj

theorem PR.append {F : Nat → Nat → Prop} {k b off cap : Nat} {rows new : List (List V)} (h : PR w F (.sl k rows) (.slice (some ⟨b, off, none⟩) rows.length cap)) (hk : ∀ r ∈ new, r.length = k) (hcap : rows.length + new.length ≤ cap)
    (hn : ∀ (i j : Nat) (r : List V) (v : V), new[i]? = some r → r[j]? = some v → ∃ y, w.cell? ⟨b, off + (rows.length + i) * k + j, none⟩ = some y ∧ ¬ F b (off + (rows.length + i) * k + j) ∧ PR w F v y) :
    PR w F (.sl k (rows ++ new)) (.slice (some ⟨b, off, none⟩) (rows.length + new.length) cap) := by
  generalize hx : Value.slice (some ⟨b, off, none⟩) rows.length cap = x at h
  cases h with
  | sl _ _ ad cap' b' off' vals hcap' hn' hk' ha hc hr =>
    simp only [Value.slice.injEq, true_and] at hx
    obtain ⟨rfl, rfl⟩ := hx
    have hbo : rows ≠ [] → b = b' ∧ off = off' := fun hne => by have := ha hne; simpa using this
    have key : ∀ (i j : Nat) (r : List V) (v : V), (rows ++ new)[i]? = some r → r[j]? = some v → ∃ y, w.cell? ⟨b, off + i * k + j, none⟩ = some y ∧ ¬ F b (off + i * k + j) ∧ PR w F v y := by
      intro i j r v hi hj
      by_cases h1 : i < rows.length
      · rw [List.getElem?_append_left h1] at hi
        have hne : rows ≠ [] := by rintro rfl; simp at h1
        obtain ⟨rfl, rfl⟩ := hbo hne
        exact ⟨_, (hc i j r v hi hj).1, (hc i j r v hi hj).2, hr i j r v hi hj⟩
      · rw [List.getElem?_append_right (by omega)] at hi
        have := hn (i - rows.length) j r v hi hj
        rwa [show rows.length + (i - rows.length) = i by omega] at this
    have hex : ∀ i j, ∃ y, ∀ r v, (rows ++ new)[i]? = some r → r[j]? = some v → w.cell? ⟨b, off + i * k + j, none⟩ = some y ∧ ¬ F b (off + i * k + j) ∧ PR w F v y := by
      intro i j
      by_cases h1 : ∃ r v, (rows ++ new)[i]? = some r ∧ r[j]? = some v
      · obtain ⟨r, v, h2, h3⟩ := h1
        obtain ⟨y, hy⟩ := key i j r v h2 h3
        exact ⟨y, fun r' v' h4 h5 => by rw [h2] at h4; cases h4; rw [h3] at h5; cases h5; exact hy⟩
      · exact ⟨default, fun r v h2 h3 => absurd ⟨r, v, h2, h3⟩ h1⟩
    have := PR.sl (w := w) (F := F) k (rows ++ new) (some ⟨b, off, none⟩) cap b off (fun i j => (hex i j).choose) (by simpa using hcap) (fun h => by cases h)
      (fun r hr => by rcases List.mem_append.1 hr with h | h; exact hk' r h; exact hk r h) (fun _ => rfl)
      (fun i j r v hi hj => ⟨((hex i j).choose_spec r v hi hj).1, ((hex i j).choose_spec r v hi hj).2.1⟩) (fun i j r v hi hj => ((hex i j).choose_spec r v hi hj).2.2)
    simpa using this

theorem chunk_flatten {k : Nat} : ∀ {rows : List (List V)} (pre : List V), (∀ r ∈ rows, r.length = k) → chunk k (pre ++ rows.flatten) pre.length rows.length = rows
  | [], pre, _ => rfl
  | r :: rows, pre, hk => by
    have hr := hk r (by simp)
    simp only [List.length_cons, chunk, List.flatten_cons]
    have h1 : ((pre ++ (r ++ rows.flatten)).drop pre.length).take k = r := by
      rw [List.drop_left, ← hr, List.take_left]
    have h2 := chunk_flatten (rows := rows) (pre ++ r) (fun r hr => hk r (by simp [hr]))
    rw [h1]
    rw [List.length_append, hr, List.append_assoc] at h2
    rw [h2]

theorem StA.drop {us : List V} {zs : List Value} (s : StA E nt φ H ρ ι a w us zs) (hus : us.length ≤ 1) : ∃ ρ', StA E nt φ H ρ' ι a w [] [] ∧ Goes ρ ι w ρ' ι w := by
  match us, zs, s with
  | [], [], s => exact ⟨ρ, s, .refl _ _ _⟩
  | [v], [x], s =>
    obtain ⟨ρ', s', g⟩ := s.put none (by simp)
    exact ⟨ρ', s', g⟩
  | [], _ :: _, s => have := s.al; simp at this
  | [_], [], s => have := s.al; simp at this
  | [_], _ :: _ :: _, s => have := s.al; simp at this
  | _ :: _ :: _, _, _ => simp at hus

theorem Cells.append {F : Nat → Nat → Prop} {vs us : List V} {xs ys : Array Value} (h : Cells w F ι vs xs) (h' : Cells w F ι us ys) : Cells w F ι (vs ++ us) (xs ++ ys) := by
  refine ⟨by simp [h.1, h'.1], fun j v x hv hx => ?_⟩
  by_cases hj : j < vs.length
  · rw [List.getElem?_append_left hj] at hv
    rw [Array.getElem?_append_left (by rw [h.1]; exact hj)] at hx
    exact h.2 j v x hv hx
  · rw [List.getElem?_append_right (by omega)] at hv
    rw [Array.getElem?_append_right (by rw [h.1]; omega), h.1] at hx
    exact h'.2 _ v x hv hx

theorem plain_get {new : List (List V)} (h : (new.all fun r => r.all V.plain) = true) {i j : Nat} {r : List V} {v : V} (hi : new[i]? = some r) (hj : r[j]? = some v) : v.plain = true := by
  have h1 := List.all_eq_true.1 h r (List.mem_of_getElem? hi)
  exact List.all_eq_true.1 h1 v (List.mem_of_getElem? hj)

theorem PR_plain {F : Nat → Nat → Prop} {v : V} {x : Value} (h : PR w F v x) : v.plain = true := by cases h <;> rfl

theorem PR.rows_plain {F : Nat → Nat → Prop} {k : Nat} {rows : List (List V)} {x : Value} (h : PR w F (.sl k rows) x) {i j : Nat} {r : List V} {v : V} (hi : rows[i]? = some r) (hj : r[j]? = some v) : v.plain = true := by
  cases h with
  | sl _ _ ad cap b off vals hcap hn hk ha hc hr => exact PR_plain (hr i j r v hi hj)

theorem plain_one {v : V} (h : v.plain = true) : v.one = true := by cases v <;> first | rfl | cases h

/-- A list's end becomes a block of ours. -/
theorem StA.openEnd {k : Nat} {rows : List (List V)} {x : Value} (s : StA E nt φ H ρ ι a w [.own k rows] [x]) {b n0 : Nat} (hρ : ρ (.arg 0) = some (b, n0)) {c : Array Value} {t : TypeId} {fr : Nat × Nat} (hrow : w.heap[b]? = some (.cells c t fr)) (vs : List V)
    (hc : ∀ (j : Nat) (v : V), vs[j]? = some v → ∃ y, c[n0 + j]? = some y ∧ PR w (foot ρ) v y) (hsz : n0 + vs.length ≤ c.size) (hfz : ∀ o, n0 ≤ o → o < c.size → w.frozen? ⟨b, o, none⟩ = false) :
    ∃ ρ2, StA E nt φ (H ++ [some vs]) ρ2 (ι ++ [.blk b n0]) a w [] [] ∧ Goes ρ ι w ρ2 (ι ++ [.blk b n0]) w := by
  have hnone : ρ (.blk H.length) = none ∧ ∀ j, ρ (.cell H.length j) = none := s.mem.dead _ (by simp)
  have hlen := s.mem.len
  have hk : Key.blk H.length ≠ Key.arg 0 := by simp
  have hf := foot_move ρ hk hnone.1
  have ho : ∀ l, l ≠ .arg 0 → l ≠ .blk H.length → ρ.move (.arg 0) (.blk H.length) l = ρ l := fun l h h' => Own.move_other _ h h'
  have g0 := Goes.move ρ ι w hk (by simp) (by simp)
  have g : Goes ρ ι w (ρ.move (.arg 0) (.blk H.length)) (ι ++ [.blk b n0]) w := .of g0.kp (fun i p h => by rw [List.getElem?_append_left (get_some h)]; exact h) g0.fp g0.fr (fun b _ => .refl b w)
  refine ⟨_, ⟨s.sz, s.df, fun q => by rw [ho _ (by simp) (by simp)]; exact (s.sl q).ext g (ho _ (by simp) (by simp)), rfl, fun j v x h => by simp at h, fun j _ => ?_, ⟨by simp [hlen], fun i ws hi hne => ?_, fun i ws l hi hl => ?_, fun i hi => ?_, fun i ws j hi hj => ?_, s.mem.glo.ext g, fun N hN => by have := s.mem.lim N hN; simp; omega⟩, s.sep.move hk, s.wd⟩, g⟩
  · by_cases hj : j = 0
    · subst hj; exact Own.move_from _ _ _
    · rw [ho _ (by simpa using hj) (by simp)]; exact s.an j (by simp; omega)
  · rcases Nat.lt_trichotomy i H.length with h1 | h1 | h1
    · rw [List.getElem?_append_left h1] at hi
      obtain ⟨b1, base, c1, t1, fr1, r1, r2, r3, r4, r5, r6⟩ := s.mem.blk i ws hi (fun l hl => hne l (by rw [List.getElem?_append_left (by omega)]; exact hl))
      refine ⟨b1, base, c1, t1, fr1, g.io _ _ r1, by rw [ho _ (by simp) (by simp; omega)]; exact r2, r3, r4, r5, fun j v hj => ?_⟩
      obtain ⟨y, q1, q2, q3⟩ := r6 j v hj
      exact ⟨y, q1, by rw [ho _ (by simp) (by simp)]; exact q2.ext g (ho _ (by simp) (by simp)), q3⟩
    · subst h1
      simp at hi
      subst hi
      refine ⟨b, n0, c, t, fr, by rw [← hlen]; simp, by rw [Own.move_to _ hk]; exact hρ, hrow, hsz, hfz, fun j v hj => ?_⟩
      obtain ⟨y, q1, q2⟩ := hc j v hj
      refine ⟨y, q1, ?_, LblP.fit_of (q2.under _)⟩
      rw [ho _ (by simp) (by simp), hnone.2 j]
      exact R.RL (.pr (q2.ext g))
    · rw [List.getElem?_eq_none (by simp; omega)] at hi; cases hi
  · rcases Nat.lt_trichotomy i H.length with h1 | h1 | h1
    · rw [List.getElem?_append_left h1] at hi
      rw [List.getElem?_append_left (by omega)] at hl
      exact (s.mem.rcd i ws l hi hl).ext g (ho _ (by simp) (by simp; omega)) (fun j => ho _ (by simp) (by simp)) (fun _ _ _ _ _ => rfl)
    · rw [h1, ← hlen] at hl
      simp at hl
    · rw [List.getElem?_eq_none (by simp; omega)] at hl; cases hl
  · have h1 : i ≠ H.length := by
      rintro rfl
      exact hi vs (by simp)
    have h2 := s.mem.dead i (fun ws hw => hi ws (by rw [List.getElem?_append_left (get_some hw)]; exact hw))
    exact ⟨by rw [ho _ (by simp) (by simpa using h1)]; exact h2.1, fun j => by rw [ho _ (by simp) (by simp)]; exact h2.2 j⟩
  · rw [ho _ (by simp) (by simp)]
    by_cases h1 : i = H.length
    · subst h1; exact hnone.2 j
    · have : i < H.length := by have := get_some hi; simp at this; omega
      rw [List.getElem?_append_left this] at hi
      exact s.mem.past i ws j hi hj

/-- What an append leaves whose new rows can be written still. -/
theorem apz_core (s : StA E nt φ H ρ ι a w [] []) {S X : Operand} {sx x : AX} (hS : chkX S sx = true) (hX : chkX X x = true) {ts : Array TypeId} {k bytes : Nat} (hc : chkApp P ts k bytes = true)
    (ho : o.op = .call { callee := .builtin .append, args := #[S, X], argTypes := ts }) {rows new : List (List V)} {φ' : Fr} (ht : takeX φ sx = (.own k rows, φ')) (hn : rowsOf H k (rd φ' x) = some new) (hb : 2 * (rows.length + new.length) * bytes ≤ 2 ^ 48) (hb0 : 0 < bytes)
    (hp : (new.all fun r => r.all V.plain) = true) (hne : new ≠ []) :
    ∃ y w1 ρ1 ι1, (execOp a.eval o).run P w = .ok (.value y) w1 ∧ StA E nt φ' (H ++ [some new.flatten]) ρ1 ι1 a w1 [] [] ∧ Goes ρ ι w ρ1 ι1 w1 ∧ AM.R w1 (foot ρ1) ι1 (.mix k rows H.length new.length) y := by
  obtain ⟨ρ1, s1, g1⟩ := take_ok s hS
  rw [ht] at s1
  simp only [List.nil_append] at s1
  obtain ⟨hPR, ad, cap, eS, htl⟩ := s1.ar 0 _ _ rfl rfl
  obtain ⟨hl, hw, hcells⟩ := src_ok (P := P) s1 hX hn
  obtain ⟨ys, hf, hys⟩ := hcells new.length (Nat.le_refl _)
  rw [List.take_length] at hys
  have hnl := flatten_len hw
  have hn0 : 0 < new.length := List.length_pos_iff.2 hne
  have hlen := s.mem.len
  have run0 : ∀ r, (Builtin.append_ ts o.type #[a.eval S, a.eval X]).run P w = r → (execOp a.eval o).run P w = r.andThen fun v w' => .ok (.value v) w' := by
    intro r hr
    simp only [execOp, ho, resolve, Sem.run_bind, Sem.run_pure, Result.andThen, invoke, builtin]
    have : (#[S, X] : Array Operand).map a.eval = #[a.eval S, a.eval X] := by simp
    rw [this, hr]
  rw [eS] at run0 hPR
  by_cases hcap : rows.length + new.length ≤ cap
  · have run1 := run_app_in (w := w) hc o.type ad rows.length cap new.length (a.eval X) ys hl hf hcap
    cases htl0 : ρ1 (.arg 0) with
    | none =>
      rw [htl0] at htl
      simp only at htl
      omega
    | some p =>
      obtain ⟨b, n0⟩ := p
      rw [htl0] at htl
      obtain ⟨off, c, t, fr, rfl, rfl, hrow, hsz, hfz⟩ := htl
      simp only at run1
      have hck : rows.length * k + new.length * k ≤ cap * k := by rw [← Nat.add_mul]; exact Nat.mul_le_mul_right k hcap
      obtain ⟨w', runS, hw'⟩ := run_storeCells (P := P) ys.toList (off + rows.length * k) 0 w c t fr hrow (by simp [hys.1, hnl]; omega) (fun o h1 h2 => hfz o (by omega) h2) (fun z hz => by
        obtain ⟨j, hj⟩ := List.getElem?_of_mem hz
        have hj2 : ys[j]? = some z := by simpa using hj
        have hlt : j < new.flatten.length := by have := get_some hj; rw [← hys.1]; simpa using this
        obtain ⟨_, r, q1, q2⟩ := flatten_get hw j new.flatten[j] (by simp)
        have hpl := plain_get hp q1 q2
        exact one_cell (hys.2 j _ z (List.getElem?_eq_getElem hlt) hj2) (plain_one hpl))
      rw [Nat.add_zero] at hw'
      have g : Goes ρ1 ι w ρ1 ι w' := .of (wrote_kp hw' rfl htl0 (Nat.le_refl _)) (fun _ _ h => h) (fun l b' q hm h => .inr ⟨l, q, hm, h, Nat.le_refl _⟩) (fun _ => rfl) (fun b _ => hw'.marks b)
      have s2 : StA E nt φ' H ρ1 ι a w' [.own k rows] [a.eval S] := s1.go g (fun _ => rfl) (fun _ => rfl)
        (s1.mem.tail hw' (fun k n h => s1.sep.one _ _ _ _ _ h htl0) (fun _ => rfl) (fun _ _ => rfl) g) ⟨s1.sep.one, fun l b1 q h => by have := hw'.size; have := s1.sep.here _ _ _ h; omega⟩
      obtain ⟨c', hrow', hsz', hget⟩ := hw'.row c t fr hrow
      have hyl := hys.1
      obtain ⟨ρ2, s3, g3⟩ := s2.openEnd htl0 hrow' new.flatten (fun j v hj => by
        have hjl := get_some hj
        refine ⟨ys[j], ?_, plain_PR ((hys.2 j v _ hj (by simp)).ext g) ?_⟩
        · rw [hget _ (by omega), if_pos (by simp; omega)]
          simp
        · obtain ⟨_, r, q1, q2⟩ := flatten_get hw j v hj
          exact plain_get hp q1 q2) (by omega) (fun o q1 q2 => by rw [hw'.marks b]; exact hfz o (by omega) (by omega))
      refine ⟨.slice (some ⟨b, off, none⟩) (rows.length + new.length) cap, w', ρ2, _, by rw [run0 _ run1, add_eq, runS]; rfl, s3, (g1.trans g).trans g3, ?_⟩
      exact .mix k rows _ _ b off cap (by rw [← hlen]; simp) hcap ((hPR.ext g).ext g3) ⟨c', t, fr, hrow', by omega⟩
  · obtain ⟨ρ0, s0, g0⟩ := s1.drop (by simp)
    have kd := kp_drew (fun _ _ => False) w
    have gd : Goes ρ0 ι w ρ0 ι w.drew := .of (kp_drew _ w) (fun _ _ h => h) (fun l b q hm h => .inr ⟨l, q, hm, h, Nat.le_refl _⟩) (fun _ => rfl) (fun _ _ _ => rfl)
    have sD := s0.go gd (fun _ => rfl) (fun _ => rfl) (s0.mem.kp s0.sep kd (fun _ => rfl) (fun _ _ => rfl) gd) ⟨s0.sep.one, s0.sep.here⟩
    have hPD := (hPR.ext g0).ext gd
    obtain ⟨_, hwD, hcellsD⟩ := src_ok (P := P) sD hX hn
    obtain ⟨ys', hfD, hysD⟩ := hcellsD new.length (Nat.le_refl _)
    rw [List.take_length] at hysD
    obtain ⟨_, hwo, hold⟩ := Src.sl (P := P) (ι := ι) hPD
    obtain ⟨old, hfo, holdc⟩ := hold rows.length (Nat.le_refl _)
    rw [List.take_length] at holdc
    obtain ⟨e, c, rest, hc1, hc2, run1⟩ := run_app_grow (w := w) hc o.type ad rows.length cap new.length (a.eval X) old ys' hl hfo hfD (by omega) hb hb0
    have hfo2 := flatten_len hwo
    have hxs : (old ++ ys' ++ rest).size = c * k := by
      rw [Array.size_append, Array.size_append, holdc.1, hysD.1, hfo2, hnl, hc2, ← Nat.add_mul, ← Nat.add_mul]; congr 1; omega
    have hrow2 := heap_alloc_new w.drew (.cells (old ++ ys' ++ rest) e)
    have hck : rows.length * k + new.length * k ≤ c * k := by rw [← Nat.add_mul]; exact Nat.mul_le_mul_right k hc1
    obtain ⟨ρ', s', g'⟩ := sD.fresh (w' := w.drew.alloc (.cells (old ++ ys' ++ rest) e)) (kp_alloc _ _ _) (some (rows.length * k)) (fun _ => by simp) (v := .own k rows) (x := .slice (some ⟨w.heap.size, 0, none⟩) rows.length c) (fun F' hF => by
      have hR := new_rows (k := k) (n := rows.length) (cap := c) (cells := rows.flatten) (xs := old ++ ys' ++ rest) (t := e) (w := w.drew) (F := foot ρ0) (w' := w.drew.alloc (.cells (old ++ ys' ++ rest) e)) (F' := F')
        (fun j v x hv hx => by
          have hjl := get_some hv
          rw [Array.append_assoc, Array.getElem?_append_left (by rw [holdc.1]; exact hjl)] at hx
          have hRR := holdc.2 j v x hv hx
          obtain ⟨_, r, q1, q2⟩ := flatten_get hwo j v hv
          exact plain_PR hRR (hPD.rows_plain q1 q2)) (by omega) (by rw [hxs, hfo2]; omega) (by omega) hrow2 (fun o ho1 h => by
          rcases (hF _ _).1 h with ⟨l, q, hl, _⟩ | ⟨m, h1, _, h3⟩
          · have := sD.sep.here _ _ _ hl; omega
          · simp at h1; omega) (fresh_mono (kp_alloc _ _ _) _ hF)
      have hch := chunk_flatten (k := k) (rows := rows) [] hwo
      simp only [List.nil_append, List.length_nil] at hch
      rw [hch] at hR
      refine ⟨hR, some ⟨w.heap.size, 0, none⟩, c, by simp, 0, old ++ ys' ++ rest, e, (0, 0), rfl, by simp, hrow2, by rw [hxs]; simp, fun o _ _ => ?_⟩
      exact World.frozen?_alloc_new _ _ _ o)
    have hRO := s'.ar 0 _ _ rfl rfl
    obtain ⟨hP2, ad2, cap2, e2, htl2⟩ := hRO
    simp only [Value.slice.injEq, true_and] at e2
    obtain ⟨rfl, rfl⟩ := e2
    have htl3 : ρ' (.arg 0) = some (w.heap.size, rows.length * k) := by
      cases hq : ρ' (.arg 0) with
      | none => rw [hq] at htl2; simp only at htl2; omega
      | some p =>
        obtain ⟨b', n'⟩ := p
        rw [hq] at htl2
        obtain ⟨off, c3, t3, fr3, h1, h2, _⟩ := htl2
        simp only [Option.some.injEq, Addr.mk.injEq, and_true] at h1
        obtain ⟨rfl, rfl⟩ := h1
        rw [h2]; simp
    obtain ⟨ρ2, s3, g3⟩ := s'.openEnd htl3 hrow2 new.flatten (fun j v hj => by
      have hjl := get_some hj
      have hyl := hysD.1
      refine ⟨ys'[j], ?_, plain_PR ((hysD.2 j v _ hj (by simp)).ext g') ?_⟩
      · rw [Array.getElem?_append_left (by rw [Array.size_append, holdc.1, hfo2, hyl]; omega), Array.getElem?_append_right (by rw [holdc.1, hfo2]; omega), holdc.1, hfo2, show rows.length * k + j - rows.length * k = j by omega]
        simp
      · obtain ⟨_, r, q1, q2⟩ := flatten_get hw j v hj
        exact plain_get hp q1 q2) (by rw [hxs, hnl]; exact hck) (fun o _ _ => World.frozen?_alloc_new _ _ _ o)
    refine ⟨_, _, ρ2, _, by rw [run0 _ run1]; rfl, s3, (((g1.trans g0).trans gd).trans g').trans g3, ?_⟩
    exact .mix k rows _ _ w.heap.size 0 c (by rw [← hlen]; simp) hc1 (hP2.ext g3) ⟨_, _, _, hrow2, by rw [hxs]; omega⟩

theorem apz_ok (s : StA E nt φ H ρ ι a w [] []) {S X : Operand} {sx x : AX} (hS : chkX S sx = true) (hX : chkX X x = true) {ts : Array TypeId} {k bytes : Nat} (hc : chkApp P ts k bytes = true)
    (ho : o.op = .call { callee := .builtin .append, args := #[S, X], argTypes := ts }) {rows new : List (List V)} {φ' : Fr} (ht : takeX φ sx = (.own k rows, φ')) (hn : rowsOf H k (rd φ' x) = some new) (hb : 2 * (rows.length + new.length) * bytes ≤ 2 ^ 48) (hb0 : 0 < bytes)
    (hp : (new.all fun r => r.all V.plain) = true) (hne : new ≠ []) : Runs P o a w (After E nt φ' (H ++ [some new.flatten]) (.mix k rows H.length new.length) ρ ι a w) := by
  obtain ⟨y, w1, ρ1, ι1, h1, h2, h3, h4⟩ := apz_core s hS hX hc ho ht hn hb hb0 hp hne
  exact .value y h1 ⟨ρ1, ι1, h2.value h4, h3⟩

/-- An append to nothing: a new block. -/
theorem app_ms_ok (s : StA E nt φ H ρ ι a w [] []) {S X : Operand} {sx x : AX} (hS : chkX S sx = true) (hX : chkX X x = true) {ts : Array TypeId} {k bytes : Nat} (hc : chkApp P ts k bytes = true)
    (ho : o.op = .call { callee := .builtin .append, args := #[S, X], argTypes := ts }) {new : List (List V)} {φ' : Fr} (ht : takeX φ sx = (.own k [], φ')) (hn : rowsOf H k (rd φ' x) = some new) (hb : 2 * (0 + new.length) * bytes ≤ 2 ^ 48) (hb0 : 0 < bytes)
    (hp : (new.all fun r => r.all V.plain) = true) (hne : new ≠ []) : Runs P o a w (After E nt φ' (H ++ [some new.flatten]) (.ms H.length 0 new.length new.length) ρ ι a w) := by
  obtain ⟨y, w1, ρ1, ι1, h1, h2, h3, h4⟩ := apz_core s hS hX hc ho ht hn hb hb0 hp hne
  obtain ⟨b, off, cap, q1, q2, q3, q4, rfl⟩ := h4.mix_inv
  refine .value _ h1 ⟨ρ1, ι1, h2.value ?_, h3⟩
  have := AM.R.ms (w := w1) (F := foot ρ1) (ι := ι1) H.length 0 new.length new.length b off cap (some ⟨b, off, none⟩) (by simpa using q1) (Nat.le_refl _) (by simpa using q2) (fun _ => rfl) (fun h => by cases h)
  simpa using this

theorem app_ok (s : StA E nt φ H ρ ι a w [] []) {S X : Operand} {sx x : AX} (hS : chkX S sx = true) (hX : chkX X x = true) {ts : Array TypeId} {k bytes : Nat} (hc : chkApp P ts k bytes = true)
    (ho : o.op = .call { callee := .builtin .append, args := #[S, X], argTypes := ts }) {rows new : List (List V)} {φ' : Fr} (ht : takeX φ sx = (.own k rows, φ')) (hn : rowsOf H k (rd φ' x) = some new) (hb : 2 * (rows.length + new.length) * bytes ≤ 2 ^ 48) (hb0 : 0 < bytes)
    (hp : (new.all fun r => r.all V.plain) = true) : Runs P o a w (After E nt φ' H (.own k (rows ++ new)) ρ ι a w) := by
  obtain ⟨ρ1, s1, g1⟩ := take_ok s hS
  rw [ht] at s1
  simp only [List.nil_append] at s1
  obtain ⟨hPR, ad, cap, eS, htl⟩ := s1.ar 0 _ _ rfl rfl
  obtain ⟨hl, hw, hcells⟩ := src_ok (P := P) s1 hX hn
  obtain ⟨ys, hf, hys⟩ := hcells new.length (Nat.le_refl _)
  rw [List.take_length] at hys
  have hnl := flatten_len hw
  have run0 : ∀ r, (Builtin.append_ ts o.type #[a.eval S, a.eval X]).run P w = r → (execOp a.eval o).run P w = r.andThen fun v w' => .ok (.value v) w' := by
    intro r hr
    simp only [execOp, ho, resolve, Sem.run_bind, Sem.run_pure, Result.andThen, invoke, builtin]
    have : (#[S, X] : Array Operand).map a.eval = #[a.eval S, a.eval X] := by simp
    rw [this, hr]
  rw [eS] at run0 hPR
  by_cases hcap : rows.length + new.length ≤ cap
  · have run1 := run_app_in (w := w) hc o.type ad rows.length cap new.length (a.eval X) ys hl hf hcap
    cases htl0 : ρ1 (.arg 0) with
    | none =>
      rw [htl0] at htl
      simp only at htl
      have h0 : new = [] := List.eq_nil_of_length_eq_zero (by omega)
      subst h0
      have hy0 : ys = #[] := by have := hys.1; simpa using this
      subst hy0
      refine .value (.slice ad rows.length cap) (w1 := w) ?_ ⟨ρ1, ι, ?_, g1⟩
      · rw [run0 _ run1]
        cases ad <;> simp [storeCells]
      · rw [eS] at s1; simpa using s1
    | some p =>
      obtain ⟨b, n0⟩ := p
      rw [htl0] at htl
      obtain ⟨off, c, t, fr, rfl, rfl, hrow, hsz, hfz⟩ := htl
      simp only at run1
      have hck : rows.length * k + new.length * k ≤ cap * k := by rw [← Nat.add_mul]; exact Nat.mul_le_mul_right k hcap
      obtain ⟨w', runS, hw'⟩ := run_storeCells (P := P) ys.toList (off + rows.length * k) 0 w c t fr hrow (by simp [hys.1, hnl]; omega) (fun o h1 h2 => hfz o (by omega) h2) (fun z hz => by
        obtain ⟨j, hj⟩ := List.getElem?_of_mem hz
        have hj2 : ys[j]? = some z := by simpa using hj
        have hlt : j < new.flatten.length := by have := get_some hj; rw [← hys.1]; simpa using this
        obtain ⟨_, r, q1, q2⟩ := flatten_get hw j new.flatten[j] (by simp)
        have hpl := plain_get hp q1 q2
        exact one_cell (hys.2 j _ z (List.getElem?_eq_getElem hlt) hj2) (plain_one hpl))
      rw [Nat.add_zero] at hw'
      have harg : ∀ l p, ρ1.put (.arg 0) (some (b, off + (rows.length + new.length) * k)) l = some p → (l = .arg 0 ∧ p = (b, off + (rows.length + new.length) * k)) ∨ (l ≠ .arg 0 ∧ ρ1 l = some p) := by
        intro l p h
        by_cases hl : l = .arg 0
        · subst hl; rw [Own.put_same] at h; exact .inl ⟨rfl, by simpa using h.symm⟩
        · rw [Own.put_other _ _ hl] at h; exact .inr ⟨hl, h⟩
      have g : Goes ρ1 ι w (ρ1.put (.arg 0) (some (b, off + (rows.length + new.length) * k))) ι w' := by
        refine .of (wrote_kp hw' rfl htl0 (Nat.le_refl _)) (fun _ _ h => h) (fun l b' q hm h => ?_) (fun _ => Own.put_other _ _ (by simp)) (fun b _ => hw'.marks b)
        rcases harg l _ h with ⟨_, h1⟩ | ⟨_, h1⟩
        · simp only [Prod.mk.injEq] at h1; obtain ⟨rfl, rfl⟩ := h1; exact .inr ⟨.arg 0, _, rfl, htl0, by rw [Nat.add_mul]; omega⟩
        · exact .inr ⟨l, q, hm, h1, Nat.le_refl _⟩
      have hnf : ∀ o, foot (ρ1.put (.arg 0) (some (b, off + (rows.length + new.length) * k))) b o → off + (rows.length + new.length) * k ≤ o := by
        rintro o ⟨l, q, hl, hq⟩
        rcases harg l _ hl with ⟨_, h1⟩ | ⟨h0, h1⟩
        · simp only [Prod.mk.injEq] at h1; omega
        · exact absurd (s1.sep.one _ _ _ _ _ h1 htl0) h0
      refine .value (.slice (some ⟨b, off, none⟩) (rows.length + new.length) cap) (w1 := w') (by rw [run0 _ run1, add_eq, runS]; rfl) ⟨_, ι, ⟨s1.sz, s1.df.kp (Goes.kp ‹_›), fun q => ?_, rfl, fun j u z h1 h2 => ?_, fun j hj => ?_, ?_, ⟨fun l l' b1 q q' h h' => ?_, fun l b1 q h => ?_⟩, s1.wd⟩, g1.trans g⟩
      · rw [Own.put_other _ _ (by simp)]; exact (s1.sl q).ext g (Own.put_other _ _ (by simp))
      · cases j with
        | zero =>
          simp at h1 h2; subst h1; subst h2
          rw [Own.put_same]
          obtain ⟨c', hrow', hsz', hget⟩ := hw'.row c t fr hrow
          refine ⟨?_, some ⟨b, off, none⟩, cap, by simp, off, c', t, fr, rfl, by simp, hrow', by omega, fun o q1 q2 => by rw [hw'.marks b]; exact hfz o (by have := Nat.add_mul rows.length new.length k; omega) (by omega)⟩
          refine (hPR.ext g).append hw hcap (fun i j r v hi hj => ?_)
          have hil := get_some hi
          have hjl := get_some hj
          have hrk := hw r (List.mem_of_getElem? hi)
          have hq := flatten_at hw i j r v hi hj
          have hql := get_some hq
          rw [← hys.1] at hql
          have hiq : i * k + k ≤ new.length * k := by
            have := Nat.mul_le_mul_right k (show i + 1 ≤ new.length by omega)
            rw [Nat.add_mul] at this; omega
          have h3 := Nat.add_mul rows.length i k
          have h4 := Nat.add_mul rows.length new.length k
          refine ⟨ys[i * k + j], ?_, fun hff => ?_, ?_⟩
          · rw [cell_of_obj hrow', hget _ (by omega), if_pos (by simp; omega)]
            rw [show off + (rows.length + i) * k + j - (off + rows.length * k) = i * k + j by omega]
            simp [hql]
          · have := hnf _ hff; omega
          · exact plain_PR ((hys.2 _ v _ hq (by simp [hql])).ext g) (plain_get hp hi hj)
        | succ j => simp at h1
      · rw [Own.put_other _ _ (by simp at hj ⊢; omega)]; exact s1.an j hj
      · exact s1.mem.tail hw' (fun k n h => s1.sep.one _ _ _ _ _ h htl0) (fun _ => Own.put_other _ _ (by simp)) (fun _ _ => Own.put_other _ _ (by simp)) g
      · rcases harg l _ h with ⟨rfl, h1⟩ | ⟨h0, h1⟩ <;> rcases harg l' _ h' with ⟨rfl, h2⟩ | ⟨h0', h2⟩
        · rfl
        · simp only [Prod.mk.injEq] at h1; obtain ⟨rfl, _⟩ := h1; exact absurd (s1.sep.one _ _ _ _ _ h2 htl0) h0'
        · simp only [Prod.mk.injEq] at h2; obtain ⟨rfl, _⟩ := h2; exact absurd (s1.sep.one _ _ _ _ _ h1 htl0) h0
        · exact s1.sep.one _ _ _ _ _ h1 h2
      · have := hw'.size
        rcases harg l _ h with ⟨_, h1⟩ | ⟨_, h1⟩
        · simp only [Prod.mk.injEq] at h1; obtain ⟨rfl, _⟩ := h1; have := lt_of_obj hrow; omega
        · have := s1.sep.here _ _ _ h1; omega
  · obtain ⟨ρ0, s0, g0⟩ := s1.drop (by simp)
    have kd := kp_drew (fun _ _ => False) w
    have gd : Goes ρ0 ι w ρ0 ι w.drew := .of (kp_drew _ w) (fun _ _ h => h) (fun l b q hm h => .inr ⟨l, q, hm, h, Nat.le_refl _⟩) (fun _ => rfl) (fun _ _ _ => rfl)
    have sD := s0.go gd (fun _ => rfl) (fun _ => rfl) (s0.mem.kp s0.sep kd (fun _ => rfl) (fun _ _ => rfl) gd) ⟨s0.sep.one, s0.sep.here⟩
    have hPD := (hPR.ext g0).ext gd
    obtain ⟨_, hwD, hcellsD⟩ := src_ok (P := P) sD hX hn
    obtain ⟨ys', hfD, hysD⟩ := hcellsD new.length (Nat.le_refl _)
    rw [List.take_length] at hysD
    obtain ⟨_, hwo, hold⟩ := Src.sl (P := P) (ι := ι) hPD
    obtain ⟨old, hfo, holdc⟩ := hold rows.length (Nat.le_refl _)
    rw [List.take_length] at holdc
    obtain ⟨e, c, rest, hc1, hc2, run1⟩ := run_app_grow (w := w) hc o.type ad rows.length cap new.length (a.eval X) old ys' hl hfo hfD (by omega) hb hb0
    have hwa : ∀ r ∈ rows ++ new, r.length = k := fun r hr => by rcases List.mem_append.1 hr with h | h; exact hwo r h; exact hw r h
    have hall := holdc.append hysD
    rw [← List.flatten_append] at hall
    have hfl := flatten_len hwa
    rw [List.length_append] at hfl
    have hxs : (old ++ ys' ++ rest).size = c * k := by
      rw [Array.size_append, hall.1, hfl, hc2, ← Nat.add_mul]; congr 1; omega
    obtain ⟨ρ', s', g'⟩ := sD.fresh (w' := w.drew.alloc (.cells (old ++ ys' ++ rest) e)) (kp_alloc _ _ _) (some ((rows.length + new.length) * k)) (fun _ => by simp) (v := .own k (rows ++ new)) (x := .slice (some ⟨w.heap.size, 0, none⟩) (rows.length + new.length) c) (fun F' hF => by
      have hR := new_rows (k := k) (n := rows.length + new.length) (cap := c) (cells := (rows ++ new).flatten) (xs := old ++ ys' ++ rest) (t := e) (w := w.drew) (F := foot ρ0) (w' := w.drew.alloc (.cells (old ++ ys' ++ rest) e)) (F' := F')
        (fun j v x hv hx => by
          have hjl := get_some hv
          rw [Array.getElem?_append_left (by rw [hall.1]; exact hjl)] at hx
          have hRR := hall.2 j v x hv hx
          obtain ⟨_, r, q1, q2⟩ := flatten_get hwa j v hv
          refine plain_PR hRR ?_
          by_cases hjr : j / k < rows.length
          · rw [List.getElem?_append_left hjr] at q1
            exact hPD.rows_plain q1 q2
          · rw [List.getElem?_append_right (by omega)] at q1
            exact plain_get hp q1 q2) (by omega) (by rw [hxs, hfl]; exact Nat.mul_le_mul_right k hc1) hc1 (heap_alloc_new w.drew _) (fun o ho1 h => by
          rcases (hF _ _).1 h with ⟨l, q, hl, _⟩ | ⟨m, h1, _, h3⟩
          · have := sD.sep.here _ _ _ hl; omega
          · simp at h1; omega) (fresh_mono (kp_alloc _ _ _) _ hF)
      have hch := chunk_flatten (k := k) (rows := rows ++ new) [] hwa
      simp only [List.nil_append, List.length_nil, List.length_append] at hch
      rw [hch] at hR
      refine ⟨hR, some ⟨w.heap.size, 0, none⟩, c, by simp, 0, old ++ ys' ++ rest, e, (0, 0), rfl, by simp, heap_alloc_new w.drew _, by rw [hxs]; simp, fun o _ _ => ?_⟩
      exact World.frozen?_alloc_new _ _ _ o)
    exact .value _ (by rw [run0 _ run1]; rfl) ⟨ρ', ι, s', ((g1.trans g0).trans gd).trans g'⟩

end
end Go.AM
