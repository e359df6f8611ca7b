/-
  The record of a loop over a function: laid, made busy, made ready again, let go; the marks on the deferred calls. What each step leaves of the memory.
-/
import Derived.Test.YtbgblfbbeamleaaGreatDoorExec
set_option linter.unusedVariables false
set_option linter.unusedSimpArgs false
namespace Go.AM

theorem recAt_some {H : Heap} {i st p lbl : Nat} {ps ks : List Nat} {vs : List V} (h : recAt H i = some (st, p, lbl, ps, ks, vs)) : H[i]? = some (some [.lrec st p lbl ps ks vs]) := by
  unfold recAt at h
  split at h
  · simp only [Option.some.injEq, Prod.mk.injEq] at h
    obtain ⟨rfl, rfl, rfl, rfl, rfl, rfl⟩ := h
    assumption
  · cases h

section
variable {P : Program} {E : LblP} {nt : Cx} {φ : Fr} {H : Heap} {ρ ρ' : Own} {ι : Places} {a : Act} {w w' : World}

/-- A smaller memory. -/
theorem R.take {F : Nat → Nat → Prop} {v : V} {x : Value} (n : Nat) (h : R w F ι v x) (hu : v.under n = true) : R w F (ι.take n) v x := by
  induction h with
  | pr h => exact .pr h
  | undef x => exact .undef x
  | no => exact .no
  | ptr i off b base h =>
    simp only [V.under, decide_eq_true_eq] at hu
    exact .ptr i off b base (by rw [List.getElem?_take_of_lt hu]; exact h)
  | rp row off b base vals hc hr => exact .rp row off b base vals hc hr
  | ms i off len cap b base cap' ad h h1 h2 ha hn =>
    simp only [V.under, decide_eq_true_eq] at hu
    exact .ms i off len cap b base cap' ad (by rw [List.getElem?_take_of_lt hu]; exact h) h1 h2 ha hn
  | agg cs xs hs h ih =>
    simp only [V.under] at hu
    exact .agg cs xs hs (fun j v x hv hx => ih j v x hv hx (underAll_iff.1 hu j v hv))
  | tup cs xs hs h ih =>
    simp only [V.under] at hu
    exact .tup cs xs hs (fun j v x hv hx => ih j v x hv hx (underAll_iff.1 hu j v hv))
  | fn f l m xs ys hs ht h h' ih ih' =>
    simp only [V.under, Bool.and_eq_true] at hu
    exact .fn f l m xs ys hs ht (fun j v x hv hx => ih j v x hv hx (underAll_iff.1 hu.1 j v hv)) (fun j v x hv hx => ih' j v x hv hx (underAll_iff.1 hu.2 j v hv))
  | yld i l h =>
    simp only [V.under, decide_eq_true_eq] at hu
    exact .yld i l (by rw [List.getElem?_take_of_lt hu]; exact h)
  | bptr i l h =>
    simp only [V.under, decide_eq_true_eq] at hu
    exact .bptr i l (by rw [List.getElem?_take_of_lt hu]; exact h)
  | mptr i l h =>
    simp only [V.under, decide_eq_true_eq] at hu
    exact .mptr i l (by rw [List.getElem?_take_of_lt hu]; exact h)
  | mg k i off len cap b base cap' ad h h1 h2 ha hn hc =>
    simp only [V.under, decide_eq_true_eq] at hu
    exact .mg k i off len cap b base cap' ad (by rw [List.getElem?_take_of_lt hu]; exact h) h1 h2 ha hn hc
  | mix k rows i n b off cap h hl hp hc =>
    simp only [V.under, decide_eq_true_eq] at hu
    exact .mix k rows i n b off cap (by rw [List.getElem?_take_of_lt hu]; exact h) hl hp hc

theorem RL.take {F : Nat → Nat → Prop} {v : V} {x : Value} {tl : Option (Nat × Nat)} (n : Nat) (h : RL w F ι v x tl) (hu : v.under n = true) : RL w F (ι.take n) v x tl := by
  rcases own_or v with ⟨k, r, rfl⟩ | hv
  · exact h
  · rw [RL_other hv] at *; exact ⟨R.take n h.1 hu, h.2⟩

theorem Mem.take (m : Mem E H ι ρ w) (n : Nat) (hE : (∃ N, E.lim = some N ∧ N ≤ n) ∨ H.length ≤ n) (hb : ∀ i, ρ' (.blk i) = if i < n then ρ (.blk i) else none) (hc : ∀ i j, ρ' (.cell i j) = if i < n then ρ (.cell i j) else none) (hf : ∀ b o, foot ρ' b o → foot ρ b o) : Mem E (H.take n) (ι.take n) ρ' w := by
  refine ⟨by simp [m.len], fun i vs hi hne => ?_, fun i vs l hi hl => ?_, fun i hi => ?_, fun i vs j hi hj => ?_, m.glo.foot hf, fun N hN => ?_⟩
  · have hin : i < n := by have := get_some hi; simp at this; omega
    rw [List.getElem?_take_of_lt hin] at hi
    obtain ⟨b, base, c, t, fr, h1, h2, h3, h4, h5, h6⟩ := m.blk i vs hi (fun l hl => hne l (by rw [List.getElem?_take_of_lt hin]; exact hl))
    refine ⟨b, base, c, t, fr, by rw [List.getElem?_take_of_lt hin]; exact h1, by rw [hb, if_pos hin]; exact h2, h3, h4, h5, fun j v hj => ?_⟩
    obtain ⟨x, hx, hr, hu⟩ := h6 j v hj
    refine ⟨x, hx, ?_, hu⟩
    rw [hc, if_pos hin]
    have hvn : v.under n = true := by
      rcases hE with ⟨N, hN, hNn⟩ | hE
      · exact under_mono (by omega) v (hu N hN)
      · exact under_mono (by have := m.len; omega) v hr.under
    exact (RL.take n hr hvn).anti hf
  · have hin : i < n := by have := get_some hi; simp at this; omega
    rw [List.getElem?_take_of_lt hin] at hi hl
    rcases m.rcd i vs l hi hl with ⟨st, pend, lbl, ps, ks, us, r, e, h⟩ | ⟨T, el, bs, e, h⟩ | ⟨ag, kinds, ks, us, e, h⟩
    rotate_left
    · exact .inr (.inl ⟨T, el, bs, e, h.mono (by rw [hb, if_pos hin]) (fun j => by rw [hc, if_pos hin]) (fun _ _ _ _ _ => rfl)⟩)
    · obtain ⟨es, q1, q2, q3, q4⟩ := h.at_
      refine .inr (.inr ⟨ag, kinds, ks, us, e, ⟨by rw [hb, if_pos hin]; exact h.own, fun j => by rw [hc, if_pos hin]; exact h.cel j, ⟨es, q1, q2, q3, fun j x hx => ⟨(q4 j x hx).1, (q4 j x hx).2.1, (q4 j x hx).2.2.1, fun v hv => ?_⟩⟩, h.und⟩⟩)
      exact R.take n (((q4 j x hx).2.2.2 v hv).mono (fun b o y h1 h2 => ⟨h1, fun h3 => h2 (hf _ _ h3)⟩) (fun _ _ h => h) (fun _ _ h => h)) (under_mono (by omega) v (underAll_get h.und hv))
    refine .inl ⟨st, pend, lbl, ps, ks, us, r, e, ⟨by rw [hb, if_pos hin]; exact h.own, fun j => by rw [hc, if_pos hin]; exact h.cel j, h.obj, h.st, h.pend, h.lbl, fun j k v h1 h2 => ?_, h.und⟩⟩
    exact R.take n ((h.fr j k v h1 h2).mono (fun b o y h1 h2 => ⟨h1, fun h3 => h2 (hf _ _ h3)⟩) (fun _ _ h => h) (fun _ _ h => h)) (under_mono (by omega) v (underAll_get h.und h2))
  · by_cases hin : i < n
    · have := m.dead i (fun vs hv => hi vs (by rw [List.getElem?_take_of_lt hin]; exact hv))
      refine ⟨by rw [hb, if_pos hin]; exact this.1, fun j => by rw [hc, if_pos hin]; exact this.2 j⟩
    · exact ⟨by rw [hb, if_neg hin], fun j => by rw [hc, if_neg hin]⟩
  · have hin : i < n := by have := get_some hi; simp at this; omega
    rw [List.getElem?_take_of_lt hin] at hi
    rw [hc, if_pos hin]
    exact m.past i vs j hi hj
  · have h0 := m.lim N hN
    rw [List.length_take]
    rcases hE with ⟨N', hN', hNn⟩ | hE
    · rw [hN] at hN'; cases hN'; omega
    · omega

theorem Goes.take {ρ0 : Own} {ι0 : Places} {w0 : World} (g : Goes ρ0 ι0 w0 ρ ι w) (n : Nat) (hn : ι0.length ≤ n) (hs : ∀ k p, k.mine = true → ρ' k = some p → ∃ k', k'.mine = true ∧ ρ k' = some p) (hf : ∀ q, ρ' (.fr q) = ρ (.fr q)) : Goes ρ0 ι0 w0 ρ' (ι.take n) w :=
  ⟨g.kp, fun i p hi => by rw [List.getElem?_take_of_lt (by have := get_some hi; omega)]; exact g.io i p hi, fun k b o hm h => by obtain ⟨k', hm', h'⟩ := hs k _ hm h; exact g.fp k' b o hm' h', fun q => (hf q).trans (g.fr q), fun k b n h hb => (by
    cases hm : k.mine with
    | true =>
      obtain ⟨k', _, h'⟩ := hs k _ hm h
      exact g.fz k' b n h' hb
    | false =>
      cases k <;> simp [Key.mine] at hm
      rename_i q
      exact g.fz (.fr q) b n (by rw [← hf]; exact h) hb)⟩

/-- The memory up to n, and no operand. -/
def Own.cut (ρ : Own) (n : Nat) : Own
  | .blk i => if i < n then ρ (.blk i) else none
  | .cell i j => if i < n then ρ (.cell i j) else none
  | .arg _ => none
  | k => ρ k

theorem cut_up (ρ : Own) (n : Nat) : ∀ k p, ρ.cut n k = some p → ρ k = some p := by
  intro k p h
  cases k with
  | blk i =>
    simp only [Own.cut] at h
    split at h
    · exact h
    · cases h
  | cell i j =>
    simp only [Own.cut] at h
    split at h
    · exact h
    · cases h
  | arg j => cases h
  | slot s => exact h
  | fr q => exact h

theorem StA.cut {vs : List V} {xs : List Value} (s : StA E nt φ H ρ ι a w vs xs) (n : Nat) (hE : (∃ N, E.lim = some N ∧ N ≤ n) ∨ H.length ≤ n) (hu : ∀ q, (Fr.get φ q).under n = true) : StA E nt φ (H.take n) (ρ.cut n) (ι.take n) a w [] [] := by
  have hf : ∀ b o, foot (ρ.cut n) b o → foot ρ b o := foot_sub (cut_up ρ n)
  exact ⟨s.sz, s.df, fun q => (RL.take n (s.sl q) (hu q)).anti hf, rfl, fun j v x h => by simp at h, fun _ _ => rfl, s.mem.take n hE (fun _ => rfl) (fun _ _ => rfl) hf, s.sep.sub (cut_up ρ n), s.wd⟩

/-- A record is changed in its state and its jump. -/
theorem cell_putObj {l : Nat} {r : Loop} {o : Obj} (hl : w.heap[l]? = some (.loop r)) (b q : Nat) (y : Value) (h : w.cell? ⟨b, q, none⟩ = some y) : (w.putObj l o).cell? ⟨b, q, none⟩ = some y := by
  have hne : b ≠ l := by
    rintro rfl
    obtain ⟨c, t, fr, h1, _⟩ := cell_obj h
    rw [hl] at h1; cases h1
  unfold World.cell? at h ⊢
  rw [World.putObj_heap_other hne]; exact h

theorem StA.putRec {vs : List V} {xs : List Value} (s : StA E nt φ H ρ ι a w vs xs) {i l st p lbl : Nat} {ps ks : List Nat} {us : List V} (hi : H[i]? = some (some [.lrec st p lbl ps ks us])) (hl : ι[i]? = some (.lp l)) {r : Loop} (hr : w.heap[l]? = some (.loop r))
    {st' p' : Nat} {state : LoopState} {pending : Option Code} (h1 : stN state = st') (h2 : pending = pendC p') :
    StA E nt φ (H.set i (some [.lrec st' p' lbl ps ks us])) ρ ι a (w.putObj l (.loop { r with state := state, pending := pending })) vs xs ∧ Goes ρ ι w ρ ι (w.putObj l (.loop { r with state := state, pending := pending })) := by
  obtain ⟨r0, hR⟩ := (s.mem.rcd i _ l hi hl).lrec
  obtain rfl : r0 = r := by have := hR.obj; rw [hr] at this; simpa using this.symm
  have hlt := lt_of_obj hr
  have hcell := fun b q y => cell_putObj (o := .loop { r0 with state := state, pending := pending }) hr b q y
  have k : Kp (afoot ρ) w (w.putObj l (.loop { r0 with state := state, pending := pending })) := by
    refine ⟨rfl, rfl, rfl, by simp, fun b hb => ?_⟩
    by_cases hbl : b = l
    · subst hbl
      rw [hr, World.putObj_heap_same hlt]
      exact ⟨_, rfl, fun hf => absurd ⟨.blk i, 0, rfl, hR.own, Nat.le_refl _⟩ hf⟩
    · rw [World.putObj_heap_other hbl]; exact .refl _ _
  have hmk : ∀ b, Marks0 b w (w.putObj l (.loop { r0 with state := state, pending := pending })) := by
    intro b
    by_cases hbl : b = l
    · subst hbl
      intro o
      unfold World.frozen?
      simp [hr, World.putObj_heap_same hlt]
    · exact .of_eq (World.putObj_heap_other hbl)
  have g : Goes ρ ι w ρ ι (w.putObj l (.loop { r0 with state := state, pending := pending })) := .of k (fun _ _ h => h) (fun k b n hm h => .inr ⟨k, n, hm, h, Nat.le_refl _⟩) (fun _ => rfl) (fun b hb => hmk b)
  have hil := get_some hi
  refine ⟨s.go g (fun _ => rfl) (fun _ => rfl) ⟨by simp [s.mem.len], fun q vs hq hne => ?_, fun q vs l' hq hl' => ?_, fun q hq => ?_, fun q vs j hq hj => ?_, s.mem.glo.ext g, fun N hN => by rw [List.length_set]; exact s.mem.lim N hN⟩ ⟨s.sep.one, fun k b n h => by simpa using s.sep.here k b n h⟩, g⟩
  · have hqi : q ≠ i := by rintro rfl; exact hne l hl
    rw [List.getElem?_set_ne (by omega)] at hq
    obtain ⟨b, base, c, t, fr, h1, h2, h3, h4, h5, h6⟩ := s.mem.blk q vs hq hne
    have hbl : b ≠ l := by rintro rfl; rw [hr] at h3; cases h3
    refine ⟨b, base, c, t, fr, h1, h2, by rw [World.putObj_heap_other hbl]; exact h3, h4, fun o h7 h8 => by rw [hmk b]; exact h5 o h7 h8, fun j v hj => ?_⟩
    obtain ⟨x, hx, hrl, hu⟩ := h6 j v hj
    exact ⟨x, hx, hrl.ext (k := .cell q j) g rfl, hu⟩
  · by_cases hqi : q = i
    · subst hqi
      rw [List.getElem?_set_self hil] at hq
      simp only [Option.some.injEq] at hq
      subst hq
      rw [hl] at hl'
      simp only [Option.some.injEq, Place.lp.injEq] at hl'
      subst hl'
      exact .inl ⟨st', p', lbl, ps, ks, us, { r0 with state := state, pending := pending }, rfl, hR.own, hR.cel, World.putObj_heap_same hlt, h1, h2, hR.lbl, fun j k v hj hv => (hR.fr j k v hj hv).ext g, hR.und⟩
    · rw [List.getElem?_set_ne (by omega)] at hq
      refine (s.mem.rcd q vs l' hq hl').ext g rfl (fun _ => rfl) (fun k b n hk hb => World.putObj_heap_other ?_)
      rintro rfl
      have := s.sep.one _ _ _ _ _ hb hR.own
      rcases hk with rfl | ⟨j, rfl⟩
      · simp at this; exact hqi this
      · cases this
  · have hqi : q ≠ i := by
      rintro rfl
      exact hq _ (List.getElem?_set_self hil)
    exact s.mem.dead q (fun vs hv => hq vs (by rw [List.getElem?_set_ne (by omega)]; exact hv))
  · by_cases hqi : q = i
    · subst hqi
      exact hR.cel j
    · rw [List.getElem?_set_ne (by omega)] at hq
      exact s.mem.past q vs j hq hj

/-- The beginning of a loop over a function, in the model. -/
theorem enter_lay (d : Df nt a.defers w) (fn : FuncId) (ps : Array Tmp) (assign body : Code) : ∃ l mk w1 r, (Instr.enterLoop fn a.tmps ps assign body nt.rd).run P w = .ok (l, mk) w1 ∧ w.heap.size ≤ l ∧ w1.heap[l]? = some (.loop r) ∧
    r.state = .ready ∧ r.pending = none ∧ r.tmps = a.tmps ∧ r.params = ps ∧ r.assign = assign ∧ r.body = body ∧ Kp (fun _ _ => False) w w1 ∧ Df nt (mk ++ a.defers) w1 := by
  unfold Df at d
  split at d
  · rename_i hrd
    obtain ⟨hB, Ds, Es, hds, hnd, hD⟩ := d
    rw [hrd]
    have k1 : Kp (fun _ _ => False) w (w.alloc (.deferred (some []))) := kp_alloc _ _ _
    refine ⟨_, _, _, { state := .ready, pending := none, fn, tmps := a.tmps, params := ps, assign, body, defers := w.heap.size }, run_enterLoop_outer fn a.tmps ps assign body, by omega, ?_, rfl, rfl, rfl, rfl, rfl, rfl, k1.trans (kp_alloc (fun _ _ => False) _ _) (fun _ _ _ h => h), ?_⟩
    · have := World.alloc_heap_new (w.alloc (.deferred (some []))) (.loop { state := .ready, pending := none, fn, tmps := a.tmps, params := ps, assign, body, defers := w.heap.size })
      rwa [World.size_alloc] at this
    · unfold Df
      rw [hrd]
      refine ⟨by simp; omega, w.heap.size :: Ds, Es, by rw [hds]; rfl, List.nodup_cons.2 ⟨fun h => ?_, hnd⟩, fun D h => ?_⟩
      · have := lt_of_obj (hD _ h).2; omega
      · rcases List.mem_cons.1 h with rfl | h
        · refine ⟨hB, ?_⟩
          rw [Go.RowKit.Below.heap_alloc _ _ _ (by simp)]
          exact World.alloc_heap_new w _
        · refine ⟨(hD D h).1, ?_⟩
          have := lt_of_obj (hD D h).2
          rw [Go.RowKit.Below.heap_alloc _ _ _ (by simp; omega), Go.RowKit.Below.heap_alloc _ _ _ this]
          exact (hD D h).2
  · rename_i l0 hrd
    obtain ⟨hds, r0, hr0⟩ := d
    rw [hrd]
    have hrun : (Instr.enterLoop fn a.tmps ps assign body (some l0)).run P w = .ok (w.heap.size, []) (w.alloc (.loop { state := .ready, pending := none, fn, tmps := a.tmps, params := ps, assign, body, defers := r0.defers })) := by
      unfold Instr.enterLoop
      simp only [Sem.run_bind, run_getLoop hr0, run_newObj_alloc, Result.andThen, Sem.run_pure]
    refine ⟨_, _, _, { state := .ready, pending := none, fn, tmps := a.tmps, params := ps, assign, body, defers := r0.defers }, hrun, Nat.le_refl _, World.alloc_heap_new w _, rfl, rfl, rfl, rfl, rfl, rfl, kp_alloc _ _ _, ?_⟩
    unfold Df
    rw [hrd]
    exact ⟨by simpa using hds, r0, by rw [Go.RowKit.Below.heap_alloc _ _ _ (lt_of_obj hr0)]; exact hr0⟩

/-- The beginning of a loop over a function. -/
theorem StA.lay (s : StA E nt φ H ρ ι a w [] []) {w1 : World} (k : Kp (fun _ _ => False) w w1) {l : Nat} (hl : w.heap.size ≤ l) {r : Loop} (hr : w1.heap[l]? = some (.loop r)) (h1 : r.state = .ready) (h2 : r.pending = none) (h3 : r.tmps = a.tmps)
    {lbl : Nat} {qs : List Nat} (hE : E.lb lbl qs r.tmps.size r.params r.assign r.body) (keep : List Nat) {ds : List Deferred} (hd : Df nt ds w1) :
    ∃ ρ1, StA E nt φ (H ++ [some [.lrec 0 0 lbl qs keep (keep.map fun k => (Fr.get φ k).strip)]]) ρ1 (ι ++ [.lp l]) { a with defers := ds } w1 [.yld H.length] [.func (.yield l) #[] #[]] ∧ Goes ρ ι w ρ1 (ι ++ [.lp l]) w1 := by
  have hnone : ρ (.blk H.length) = none ∧ ∀ j, ρ (.cell H.length j) = none := s.mem.dead _ (by simp)
  have hinv : ∀ k p, ρ.put (.blk H.length) (some (l, 0)) k = some p → (k = .blk H.length ∧ p = (l, 0)) ∨ (k ≠ .blk H.length ∧ ρ k = some p) := by
    intro k p h
    by_cases hk : k = .blk H.length
    · subst hk; rw [Own.put_same] at h; exact .inl ⟨rfl, by simpa using h.symm⟩
    · rw [Own.put_other _ _ hk] at h; exact .inr ⟨hk, h⟩
  have hlen := s.mem.len
  have g : Goes ρ ι w (ρ.put (.blk H.length) (some (l, 0))) (ι ++ [.lp l]) w1 := by
    refine .of (kp_false k) (fun i p h => ?_) (fun k b n hm h => ?_) (fun _ => Own.put_other _ _ (by simp)) (fun b hb => k.marks hb (fun _ h => h))
    · rw [List.getElem?_append_left (get_some h)]; exact h
    · rcases hinv k _ h with ⟨_, h1⟩ | ⟨_, h1⟩
      · simp at h1; exact .inl (by omega)
      · exact .inr ⟨_, n, hm, h1, Nat.le_refl _⟩
  have hnew : (ι ++ [Place.lp l])[H.length]? = some (.lp l) := by rw [← hlen]; simp
  refine ⟨_, ⟨s.sz, hd, fun q => by rw [Own.put_other _ _ (by simp)]; exact (s.sl q).ext g (Own.put_other _ _ (by simp)), rfl, fun j v x hv hx => ?_, fun j hj => by rw [Own.put_other _ _ (by simp)]; exact s.an j (by simp), ⟨by simp [hlen], fun i vs hi hne => ?_, fun i vs l' hi hl' => ?_, fun i hi => ?_, fun i vs j hi hj => ?_, s.mem.glo.ext g, fun N hN => by have := s.mem.lim N hN; simp; omega⟩, ⟨fun q q' b n n' h h' => ?_, fun q b n h => ?_⟩, s.wd⟩, g⟩
  · cases j with
    | zero =>
      simp at hv hx; subst hv; subst hx
      rw [Own.put_other _ _ (by simp), s.an 0 (by simp)]
      exact R.RL (.yld _ l hnew)
    | succ j => simp at hv
  · rcases Nat.lt_trichotomy i H.length with h | h | h
    · rw [List.getElem?_append_left h] at hi
      obtain ⟨b, base, c, t, fr, h1, h2, h3, h4, h5, h6⟩ := s.mem.blk i vs hi (fun l' hl' => hne l' (by rw [List.getElem?_append_left (by omega)]; exact hl'))
      obtain ⟨c', fr', q1, q2, q3, _⟩ := k.obj_cells h3
      refine ⟨b, base, c', t, fr', g.io _ _ h1, by rw [Own.put_other _ _ (by simp; omega)]; exact h2, q1, by omega, fun o h1 h2 => by rw [k.marks (lt_of_obj h3) (fun _ h => h)]; exact h5 o h1 (by omega), fun j v hj => ?_⟩
      obtain ⟨x, hx, hrl, hu⟩ := h6 j v hj
      exact ⟨x, by rw [q3 _ (fun h => h)]; exact hx, by rw [Own.put_other _ _ (by simp)]; exact hrl.ext g (Own.put_other _ _ (by simp)), hu⟩
    · subst h; exact absurd hnew (hne l)
    · rw [List.getElem?_eq_none (by simp; omega)] at hi; cases hi
  · rcases Nat.lt_trichotomy i H.length with h | h | h
    · rw [List.getElem?_append_left h] at hi
      rw [List.getElem?_append_left (by omega)] at hl'
      exact (s.mem.rcd i vs l' hi hl').ext g (Own.put_other _ _ (by simp; omega)) (fun _ => Own.put_other _ _ (by simp)) (fun _ b n _ hb => k.same (s.sep.here _ _ _ hb))
    · subst h
      simp at hi
      subst hi
      rw [hnew] at hl'
      simp only [Option.some.injEq, Place.lp.injEq] at hl'
      subst hl'
      refine .inl ⟨0, 0, lbl, qs, keep, _, r, rfl, ⟨by simp, fun j => by rw [Own.put_other _ _ (by simp)]; exact hnone.2 j, hr, by rw [h1]; rfl, by rw [h2]; rfl, hE, fun j k v hj hv => ?_, ?_⟩⟩
      · rw [List.getElem?_map, hj] at hv
        simp only [Option.map_some, Option.some.injEq] at hv
        subst hv
        rw [h3]
        exact ((s.sl k).ext g (Own.put_other _ _ (by simp))).R
      · refine underAll_iff.2 fun j v hv => ?_
        rw [List.getElem?_map, Option.map_eq_some_iff] at hv
        obtain ⟨k, _, rfl⟩ := hv
        have := (s.sl k).R.under
        rwa [hlen] at this
    · rw [List.getElem?_eq_none (by simp; omega)] at hi; cases hi
  · have h1 : i ≠ H.length := by
      rintro rfl
      exact hi _ (by simp; rfl)
    have h2 := s.mem.dead i (fun ws hw => hi ws (by rw [List.getElem?_append_left (get_some hw)]; exact hw))
    exact ⟨by rw [Own.put_other _ _ (by simpa using h1)]; exact h2.1, fun j => by rw [Own.put_other _ _ (by simp)]; exact h2.2 j⟩
  · rw [Own.put_other _ _ (by simp)]
    by_cases h1 : i = H.length
    · subst h1; exact hnone.2 j
    · have : i < H.length := by have := get_some hi; simp at this; omega
      rw [List.getElem?_append_left this] at hi
      exact s.mem.past i vs j hi hj
  · rcases hinv q _ h with ⟨rfl, h1⟩ | ⟨q1, h1⟩ <;> rcases hinv q' _ h' with ⟨rfl, h2⟩ | ⟨q2, h2⟩
    · rfl
    · simp at h1; have := s.sep.here _ _ _ h2; omega
    · simp at h2; have := s.sep.here _ _ _ h1; omega
    · exact s.sep.one _ _ _ _ _ h1 h2
  · rcases hinv q _ h with ⟨_, h1⟩ | ⟨_, h1⟩
    · simp at h1; have := lt_of_obj hr; omega
    · have := s.sep.here _ _ _ h1; have := k.size; omega

/-! ### The way out of a function -/

/-- Some marks' blocks are shut. -/
structure Shut (w w' : World) (B : Nat) : Prop where
  os : w'.os = w.os
  tape : w'.tape = w.tape
  output : w'.output = w.output
  size : w'.heap.size = w.heap.size
  low : ∀ b : Nat, b < B → w'.heap[b]? = w.heap[b]?
  obj : ∀ b : Nat, (∀ d : Option (List Deferred), w.heap[b]? ≠ some (Obj.deferred d)) → w'.heap[b]? = w.heap[b]?

theorem Shut.refl (w : World) (B : Nat) : Shut w w B := ⟨rfl, rfl, rfl, rfl, fun _ _ => rfl, fun _ _ => rfl⟩

theorem Shut.put {B D : Nat} (h : Shut (w.putObj D (.deferred none)) w' B) (hD : B ≤ D) {ds : List Deferred} (hw : w.heap[D]? = some (.deferred (some ds))) : Shut w w' B := by
  refine ⟨h.os, h.tape, h.output, by rw [h.size]; simp, fun b hb => ?_, fun b hb => ?_⟩
  · rw [h.low b hb, World.putObj_heap_other (by omega)]
  · have hne : b ≠ D := by rintro rfl; exact hb _ hw
    rw [h.obj b (by rw [World.putObj_heap_other hne]; exact hb), World.putObj_heap_other hne]

/-- The marks' blocks are shut one after the other; what follows begins there. -/
theorem leaves_marks {fn : Func} {tmps : Array Value} {R : Ending → World → Prop} {B : Nat} (tail : List Deferred) : ∀ (Ds : List Nat) (w : World), Ds.Nodup → (∀ D ∈ Ds, B ≤ D ∧ w.heap[D]? = some (.deferred (some []))) →
    (∀ w', Shut w w' B → (∀ b : Nat, b ∉ Ds → w'.heap[b]? = w.heap[b]?) → LeavesInM (wideR none) 0 P fn tmps R tail .returning w') →
    LeavesInM (wideR none) 0 P fn tmps R (Ds.map mark ++ tail) .returning w
  | [], w, _, _, h => h w (.refl _ _) (fun _ _ => rfl)
  | D :: Ds, w, hn, hD, h => by
    obtain ⟨h1, h2⟩ := List.nodup_cons.1 hn
    obtain ⟨hB, hw⟩ := hD D (by simp)
    refine ⟨by simp, .inl ⟨D, _, rfl, run_takeDeferred hw, ?_⟩⟩
    refine leaves_marks tail Ds _ h2 (fun D' hD' => ⟨(hD D' (by simp [hD'])).1, ?_⟩) (fun w' hs ho => h w' (hs.put hB hw) (fun b hb => ?_))
    · have hne : D' ≠ D := by rintro rfl; exact h1 hD'
      rw [World.putObj_heap_other hne]
      exact (hD D' (by simp [hD'])).2
    · simp only [List.mem_cons, not_or] at hb
      rw [ho b hb.2, World.putObj_heap_other hb.1]

/-- The same for a frame that was entered as a deferred call. -/
theorem goes_marks {fn : Func} {R : Ending → World → Prop} {B : Nat} {cs : List Frame} : ∀ (Ds : List Nat) (w : World) (fr : Frame), Ds.Nodup → (∀ D ∈ Ds, B ≤ D ∧ w.heap[D]? = some (.deferred (some []))) →
    fr.mode = .returning → fr.defers = Ds.map mark → fr.kind = .deferred → P.funcs[fr.fn]? = some fn →
    (∀ w', Shut w w' B → ∃ v, (results fn fr.tmps).run P w' = .ok v w' ∧ R (.returned v) w') →
    ∃ e w' fr', R e w' ∧ ComesIn (Machine.fenced P (wideR none)) P (lone fr cs w) (lone fr' cs w') e ∧ fr'.kind = .deferred ∧ fr'.fn = fr.fn ∧ fr'.going P w' e
  | [], w, fr, _, _, hm, hd, hk, hf, h => by
    obtain ⟨v, h1, h2⟩ := h w (.refl _ _)
    exact ⟨.returned v, w, fr, h2, StepsIn.refl _, hk, rfl, hm, hd, fn, hf, h1⟩
  | D :: Ds, w, fr, hn, hD, hm, hd, hk, hf, h => by
    obtain ⟨h1, h2⟩ := List.nodup_cons.1 hn
    obtain ⟨hB, hw⟩ := hD D (by simp)
    have hst := step_collected (P := P) (cs := cs) (fr := fr) (w := w) (by rw [hm]; simp) hd rfl (run_takeDeferred hw)
    have hfe : (lone fr cs w).fenced P (wideR none) := fenced_out (n := 0) trivial (by simp [Fence.room, wideR, Fence.wide]) (by rw [hm]; simp) hd (fun g hg => by simp [mark, Target.leads] at hg)
    obtain ⟨e, w', fr', hR, hs, q1, q2, q3⟩ := goes_marks (fn := fn) (R := R) (B := B) (cs := cs) Ds _ { fr with defers := [] ++ Ds.map mark } h2 (fun D' hD' => ⟨(hD D' (by simp [hD'])).1, by
      have hne : D' ≠ D := by rintro rfl; exact h1 hD'
      rw [World.putObj_heap_other hne]
      exact (hD D' (by simp [hD'])).2⟩) hm rfl hk hf (fun w' hs => h w' (hs.put hB hw))
    exact ⟨e, w', fr', hR, ComesIn.of_steps (.one hfe hst) hs, q1, q2, q3⟩

/-- A function's end: marks alone wait, and behind them the results are right. -/
def EndM (B : Nat) (fn : Func) (R : Ending → World → Prop) (a : Act) (w : World) : Prop :=
  ∃ Ds : List Nat, a.defers = Ds.map mark ∧ Ds.Nodup ∧ (∀ D ∈ Ds, B ≤ D ∧ w.heap[D]? = some (.deferred (some []))) ∧ ∀ w', Shut w w' B → ∃ v, (results fn a.tmps).run P w' = .ok v w' ∧ R (.returned v) w'

theorem EndM.leaves {B : Nat} {fn : Func} {R : Ending → World → Prop} {a : Act} {w : World} (h : EndM (P := P) B fn R a w) : LeavesInM (wideR none) 0 P fn a.tmps R a.defers .returning w := by
  obtain ⟨Ds, h1, h2, h3, h4⟩ := h
  rw [h1, ← List.append_nil (Ds.map mark)]
  exact leaves_marks [] Ds w h2 h3 (fun w' hs _ => h4 w' hs)

/-- A function's contract as a deferred call, marks and all. -/
theorem callsD_of_marks {f : FuncId} {fn : Func} {c : Code} {args : Array Value} {u : FrameMode} {w : World} {B : Nat} {R : Ending → World → Prop}
    (hf : P.funcs[f]? = some fn) (hb : fn.body = some c)
    (h : c.wpIn (wideR none) 0 P (fun e a w => (e = .normal ∨ e = .ret) ∧ EndM (P := P) B fn R a w) { tmps := args ++ Array.replicate (fn.ntmps - args.size) undef, defers := [] } w) :
    CallsDIn (wideR none) 0 P f args u w fun e u' w' => u' = u ∧ R e w' := by
  refine ⟨trivial, fun c₀ cs hu hr => ?_⟩
  let b : Frame := { (default : Frame) with fn := f, kind := .deferred, roundOf := none }
  have henter : Frame.enter P f args .deferred =
      b.atR { tmps := args ++ Array.replicate (fn.ntmps - args.size) undef, defers := [] } [.code c] := by
    simp [Frame.enter, Frame.atR, hf, hb, b]
  have hc : ({ c₀ with mode := u } : Frame) = c₀ := by subst hu; rfl
  obtain ⟨e, a', w', ⟨he, Ds, h1, h2, h3, h4⟩, harr⟩ := h b [] (c₀ :: cs) rfl trivial hr
  rw [← henter] at harr
  rcases he with rfl | rfl
  · obtain ⟨e', w'', fr', hR, hs, q1, q2, q3⟩ := goes_marks (fn := fn) (R := R) (B := B) (cs := c₀ :: cs) Ds w' { b.atR a' [] with mode := .returning } h2 h3 rfl h1 rfl hf h4
    exact ⟨e', u, w'', fr', ⟨rfl, hR⟩, (by rw [hc]; exact ComesIn.of_steps (StepsIn.trans harr (.one (fenced_calm (fr := b.atR a' []) trivial hr rfl) (stepR_end rfl))) hs), q1, q2, q3⟩
  · obtain ⟨todo, hs0⟩ := harr.1 rfl
    obtain ⟨e', w'', fr', hR, hs, q1, q2, q3⟩ := goes_marks (fn := fn) (R := R) (B := B) (cs := c₀ :: cs) Ds w' { b.atR a' todo with mode := .returning } h2 h3 rfl h1 rfl hf h4
    exact ⟨e', u, w'', fr', ⟨rfl, hR⟩, (by rw [hc]; exact ComesIn.of_steps hs0 hs), q1, q2, q3⟩

theorem Shut.cell {B : Nat} (h : Shut w w' B) (b q : Nat) (y : Value) (hc : w.cell? ⟨b, q, none⟩ = some y) : w'.cell? ⟨b, q, none⟩ = some y := by
  obtain ⟨c, t, fr, h1, h2⟩ := cell_obj hc
  have := h.obj b (fun d hd => by rw [h1] at hd; cases hd)
  rw [cell_of_obj (this.trans h1)]; exact h2

theorem StA.shut (s : StA E nt φ H ρ ι a w [] []) (hrd : nt.rd = none) (hB : nt.B ≤ w.heap.size) {B : Nat} (h : Shut w w' B) : StA E { nt with dd := none } φ H ρ ι { a with defers := [] } w' [] [] := by
  have hm : ∀ b o y, w.cell? ⟨b, o, none⟩ = some y → ¬ foot ρ b o → w'.cell? ⟨b, o, none⟩ = some y ∧ ¬ foot ρ b o := fun b o y h1 h2 => ⟨h.cell b o y h1, h2⟩
  have hcells : ∀ {b : Nat} {c : Array Value} {t : TypeId} {fr : Nat × Nat}, w.heap[b]? = some (.cells c t fr) → w'.heap[b]? = some (.cells c t fr) := fun hb => (h.obj _ (fun d hd => by rw [hb] at hd; cases hd)).trans hb
  have hrl : ∀ {v : V} {x : Value} {tl : Option (Nat × Nat)}, RL w (foot ρ) ι v x tl → RL w' (foot ρ) ι v x tl := by
    intro v x tl hr
    rcases own_or v with ⟨k, r, rfl⟩ | hv
    · obtain ⟨hp, ad, cap, hx, ht⟩ := hr
      refine ⟨hp.mono hm, ad, cap, hx, ?_⟩
      cases tl with
      | none => exact ht
      | some p =>
        obtain ⟨b, n⟩ := p
        obtain ⟨off, c, t, fr, ha, hn, hb, hsz, hfr⟩ := ht
        refine ⟨off, c, t, fr, ha, hn, hcells hb, hsz, fun o h1 h2 => ?_⟩
        have := hfr o h1 h2
        unfold World.frozen? at this ⊢
        simp only [hb, hcells hb] at this ⊢; exact this
    · rw [RL_other hv] at *; exact ⟨hr.1.mono hm (fun _ _ h => h) (fun b n ⟨c, t, fr, h1, h2⟩ => ⟨c, t, fr, hcells h1, h2⟩), hr.2⟩
  refine ⟨s.sz, ?_, fun q => hrl (s.sl q), rfl, fun j v x h => by simp at h, s.an, ⟨s.mem.len, fun i vs hi hne => ?_, fun i vs l hi hl => ?_, s.mem.dead, s.mem.past, ⟨fun q hq => ⟨(s.mem.glo.1 q hq).1.imp fun m hm' => (hm _ _ _ hm' (fun ⟨k, n, hk, _⟩ => (s.mem.glo.1 q hq).2 k q n hk rfl)).1, (s.mem.glo.1 q hq).2⟩, fun p hp => ⟨fun j x hx => (hm _ _ _ ((s.mem.glo.2 p hp).1 j x hx) (fun ⟨k, n, hk, _⟩ => (s.mem.glo.2 p hp).2.2 k p.1 n hk rfl)).1, by rw [h.size]; exact (s.mem.glo.2 p hp).2.1, (s.mem.glo.2 p hp).2.2⟩⟩, s.mem.lim⟩, ⟨s.sep.one, fun k b n hk => by rw [h.size]; exact s.sep.here k b n hk⟩, s.wd⟩
  · unfold Df
    rw [hrd]
    exact ⟨by rw [h.size]; exact hB, [], [], rfl, List.nodup_nil, by simp⟩
  · obtain ⟨b, base, c, t, fr, h1, h2, h3, h4, h5, h6⟩ := s.mem.blk i vs hi hne
    refine ⟨b, base, c, t, fr, h1, h2, hcells h3, h4, fun o h7 h8 => ?_, fun j v hj => ?_⟩
    · have := h5 o h7 h8
      unfold World.frozen? at this ⊢
      simp only [h3, hcells h3] at this ⊢; exact this
    · obtain ⟨x, hx, hr, hu⟩ := h6 j v hj
      exact ⟨x, hx, hrl hr, hu⟩
  · have hR := s.mem.rcd i vs l hi hl
    exact hR.mono hm (fun _ _ h => h) (fun b n ⟨c, t, fr, h1, h2⟩ => ⟨c, t, fr, hcells h1, h2⟩) rfl (fun _ => rfl) (fun k b n hk hb => h.obj b (hR.live k b n hk hb))

theorem Goes.shut {ρ0 : Own} {ι0 : Places} {w0 : World} (g : Goes ρ0 ι0 w0 ρ ι w) (h : Shut w w' w0.heap.size) : Goes ρ0 ι0 w0 ρ ι w' :=
  ⟨⟨h.os.trans g.kp.os, h.tape.trans g.kp.tape, h.output.trans g.kp.output, by rw [h.size]; exact g.kp.size, fun b hb => by rw [h.low b hb]; exact g.kp.obj b hb⟩, g.io, g.fp, g.fr, fun k b n hk hb => (g.fz k b n hk hb).trans (.of_eq (h.low b hb))⟩

end
end Go.AM
