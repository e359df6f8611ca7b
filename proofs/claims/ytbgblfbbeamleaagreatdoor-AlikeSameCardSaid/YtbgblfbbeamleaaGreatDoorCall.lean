/-
  Calls: what is asked of a callee, and what a call then leaves.
-/
import Derived.Test.YtbgblfbbeamleaaGreatDoorOpY
set_option linter.unusedVariables false
set_option linter.unusedSimpArgs false
namespace Go.AM

def callable (P : Program) (f : Nat) : Bool :=
  match P.funcs[f]? with
  | some fn => fn.name != "runtime.NumGoroutine" && fn.body.isSome
  | none => false

/-- The function for which a call's number stands. -/
def fnNo (f : Nat) : Option Nat := if f < yBase then some f else if (f - yBase) % 2 = 0 then none else some ((f - yBase) / 2)

/-- Is it a function's wide form? -/
def wideNo (f : Nat) : Bool := !decide (f < yBase) && (f - yBase) % 2 != 0

theorem fnNo_lt {f : Nat} (h : f < yBase) : fnNo f = some f := by unfold fnNo; rw [if_pos h]
theorem fnNo_y (i : Nat) : fnNo (yNo i) = none := by unfold fnNo yNo; rw [if_neg (by omega), if_pos (by omega)]
theorem fnNo_w (g : Nat) : fnNo (wNo g) = some g := by
  unfold fnNo wNo
  rw [if_neg (by omega), if_neg (by omega)]
  congr 1; omega
theorem wideNo_lt {f : Nat} (h : f < yBase) : wideNo f = false := by simp [wideNo, h]
theorem wideNo_y (i : Nat) : wideNo (yNo i) = false := by
  unfold wideNo yNo
  simp
theorem yNo_sub (i : Nat) : (yNo i - yBase) / 2 = i := by unfold yNo; omega

/-- What a call's number is in the model: a function; or a round of a loop whose record lies in the memory. -/
def CallOf (P : Program) (f : Nat) (ι : Places) (xs : Array Value) (w : World) (K : Ending → World → Prop) : Prop :=
  match fnNo f with
  | some g => Calls P g xs w K
  | none => ∀ l, ι[(f - yBase) / 2]? = some (.lp l) → ∃ fn tmps assign body, (Instr.yield l xs).run P w = .ok (.round l fn tmps assign body) w ∧ RoundIn Fence.wide 0 P l fn tmps assign body w K

theorem CallOf.mono {P : Program} {f : Nat} {ι : Places} {xs : Array Value} {w : World} {K K' : Ending → World → Prop} (h : CallOf P f ι xs w K) (hk : ∀ e w', K e w' → K' e w') : CallOf P f ι xs w K' := by
  unfold CallOf at *
  cases hf : fnNo f with
  | some g =>
    rw [hf] at h
    exact Calls.mono h hk
  | none =>
    rw [hf] at h
    intro l hl
    obtain ⟨fn, tmps, assign, body, h1, h2⟩ := h l hl
    exact ⟨fn, tmps, assign, body, h1, h2.mono hk⟩

theorem CallOf.calls {P : Program} {f : Nat} {ι : Places} {xs : Array Value} {w : World} {K : Ending → World → Prop} (h : CallOf P f ι xs w K) (hf : f < yBase) : Calls P f xs w K := by
  unfold CallOf at h
  rwa [fnNo_lt hf] at h

theorem CallOf.callsG {P : Program} {f g : Nat} {ι : Places} {xs : Array Value} {w : World} {K : Ending → World → Prop} (h : CallOf P f ι xs w K) (hg : fnNo f = some g) : Calls P g xs w K := by
  unfold CallOf at h
  rwa [hg] at h

theorem CallOf.callsW {P : Program} {g : Nat} {ι : Places} {xs : Array Value} {w : World} {K : Ending → World → Prop} (h : CallOf P (wNo g) ι xs w K) : Calls P g xs w K := by
  unfold CallOf at h
  rwa [fnNo_w] at h

theorem CallOf.yields {P : Program} {i : Nat} {ι : Places} {xs : Array Value} {w : World} {K : Ending → World → Prop} (h : CallOf P (yNo i) ι xs w K) {l : Nat} (hl : ι[i]? = some (.lp l)) :
    ∃ fn tmps assign body, (Instr.yield l xs).run P w = .ok (.round l fn tmps assign body) w ∧ RoundIn Fence.wide 0 P l fn tmps assign body w K := by
  unfold CallOf at h
  rw [fnNo_y] at h
  exact h l (by rw [yNo_sub]; exact hl)

/-- What a call leaves. -/
def Left (E : LblP) (r : V) (H' : Heap) (ρ : Own) (ι : Places) (w : World) (e : Ending) (w' : World) : Prop :=
  ∃ x ρ' ι', e = .returned x ∧ Mem E H' ι' ρ' w' ∧ Sep ρ' w' ∧ RL w' (foot ρ') ι' r x (ρ' (.slot 0)) ∧ (∀ s, s ≠ 0 → ρ' (.slot s) = none) ∧ (∀ j, ρ' (.arg j) = none) ∧ Goes ρ ι w ρ' ι' w'

/-- A callee does in the model what the abstract call says. -/
def RealCall (E : LblP) (P : Program) (f : Nat) (args : List V) (H : Heap) (r : V) (H' : Heap) : Prop :=
  (∀ g, fnNo f = some g → callable P g = true) ∧ ∀ (w : World) (ρ : Own) (ι : Places) (xs : Array Value), Mem E H ι ρ w → Sep ρ w → xs.size = args.length →
    (∀ (j : Nat) (v : V) (x : Value), args[j]? = some v → xs[j]? = some x → RL w (foot ρ) ι v x (ρ (.slot j))) → (∀ j, args.length ≤ j → ρ (.slot j) = none) → (∀ j, ρ (.arg j) = none) →
    CallOf P f ι xs w (Left E r H' ρ ι w)

def LblP.at (E : LblP) (lim : Option Nat) : LblP := { E with lim := lim }

def CallOK (E : LblP) (P : Program) (call : CallF) : Prop := ∀ f args H r H', call f args H = some (r, H') → ∀ lim, (wideNo f = true → lim = none) → RealCall (E.at lim) P f args H r H'

theorem CallOK.plain {E : LblP} {P : Program} {call : CallF} (h : CallOK E P call) {f : Nat} {args : List V} {H : Heap} {r : V} {H' : Heap} (e : call f args H = some (r, H')) (hf : wideNo f = false) : RealCall E P f args H r H' :=
  h f args H r H' e E.lim (fun h => by rw [hf] at h; cases h)

theorem CallOK.wide {E : LblP} {P : Program} {call : CallF} (h : CallOK E P call) {f : Nat} {args : List V} {H : Heap} {r : V} {H' : Heap} (e : call f args H = some (r, H')) (hE : E.lim = none) : RealCall E P f args H r H' :=
  h f args H r H' e E.lim (fun _ => hE)

theorem Rcx.lim {E E' : LblP} {ι : Places} {ρ : Own} {w : World} {i l : Nat} {vs : List V} (h : Rcx E ι ρ w i l vs) (hE : E'.lb = E.lb) : Rcx E' ι ρ w i l vs := by
  rcases h with ⟨st, pend, lbl, ps, ks, us, r, e, h⟩ | h | h
  · exact .inl ⟨st, pend, lbl, ps, ks, us, r, e, ⟨h.own, h.cel, h.obj, h.st, h.pend, by rw [hE]; exact h.lbl, h.fr, h.und⟩⟩
  · exact .inr (.inl h)
  · exact .inr (.inr h)

/-- Any block may lead anywhere. -/
theorem Mem.widen {E : LblP} {lim : Option Nat} {H : Heap} {ι : Places} {ρ : Own} {w : World} (m : Mem (E.at lim) H ι ρ w) : Mem (E.at none) H ι ρ w := by
  refine ⟨m.len, fun i vs h1 h2 => ?_, fun i vs l h1 h2 => (m.rcd i vs l h1 h2).lim rfl, m.dead, m.past, m.glo, fun N h => by cases h⟩
  obtain ⟨b, base, c, t, fr, q1, q2, q3, q4, q5, q6⟩ := m.blk i vs h1 h2
  refine ⟨b, base, c, t, fr, q1, q2, q3, q4, q5, fun j v hj => ?_⟩
  obtain ⟨x, r1, r2, _⟩ := q6 j v hj
  exact ⟨x, r1, r2, LblP.fit_none rfl i v⟩

/-- All that there is lies below the memory's length. -/
theorem Mem.narrow {E : LblP} {lim : Option Nat} {H : Heap} {ι : Places} {ρ : Own} {w : World} (m : Mem (E.at lim) H ι ρ w) : Mem (E.at (some H.length)) H ι ρ w := by
  refine ⟨m.len, fun i vs h1 h2 => ?_, fun i vs l h1 h2 => (m.rcd i vs l h1 h2).lim rfl, m.dead, m.past, m.glo, fun N h => by cases h; exact Nat.le_refl _⟩
  obtain ⟨b, base, c, t, fr, q1, q2, q3, q4, q5, q6⟩ := m.blk i vs h1 h2
  refine ⟨b, base, c, t, fr, q1, q2, q3, q4, q5, fun j v hj => ?_⟩
  obtain ⟨x, r1, r2, _⟩ := q6 j v hj
  refine ⟨x, r1, r2, fun N hN => ?_⟩
  cases hN
  exact under_mono (by have := m.len; omega) v r2.under

/-- What holds for any bound holds without one. -/
theorem RealCall.widen {E : LblP} {P : Program} {f : Nat} {args : List V} {H : Heap} {r : V} {H' : Heap} (h : ∀ N, RealCall (E.at (some N)) P f args H r H') : RealCall (E.at none) P f args H r H' := by
  refine ⟨(h 0).1, fun w ρ ι xs hm hs hl ha hsl har => ?_⟩
  refine ((h H.length).2 w ρ ι xs (Mem.narrow hm) hs hl ha hsl har).mono ?_
  rintro e w' ⟨x, ρ', ι', rfl, m, s, rl, h1, h2, g⟩
  exact ⟨x, ρ', ι', rfl, Mem.widen m, s, rl, h1, h2, g⟩

theorem Sep.rename {ρ ρ' : Own} {w : World} (s : Sep ρ w) (f : Key → Key) (h : ∀ k p, ρ' k = some p → ρ (f k) = some p) (inj : ∀ k k' p p', ρ' k = some p → ρ' k' = some p' → f k = f k' → k = k') : Sep ρ' w :=
  ⟨fun k k' b n n' hk hk' => inj k k' _ _ hk hk' (s.one _ _ _ _ _ (h _ _ hk) (h _ _ hk')), fun k b n hk => s.here _ _ _ (h _ _ hk)⟩

theorem foot_rename {ρ ρ' : Own} (f : Key → Key) (h : ∀ k p, ρ' k = some p → ρ (f k) = some p) (b o : Nat) (hf : foot ρ' b o) : foot ρ b o := by
  obtain ⟨k, n, hk, hn⟩ := hf; exact ⟨f k, n, h _ _ hk, hn⟩

def Own.callee (ρ : Own) (n m : Nat) : Own
  | .blk i => ρ (.blk i)
  | .cell i j => ρ (.cell i j)
  | .slot q => if n ≤ q ∧ q < n + m then ρ (.arg (q - n)) else none
  | .arg _ => none
  | .fr k => if k % 2 = 0 then ρ (.slot (k / 2)) else ρ (.fr (k / 2))

def Own.back (ρ : Own) : Own
  | .blk i => ρ (.blk i)
  | .cell i j => ρ (.cell i j)
  | .slot s => ρ (.fr (2 * s))
  | .fr k => ρ (.fr (2 * k + 1))
  | .arg j => if j = 0 then ρ (.slot 0) else none

theorem callee_up (ρ : Own) (n m : Nat) : ∀ k p, ρ.callee n m k = some p → ρ (match k with | .slot q => .arg (q - n) | .fr k => if k % 2 = 0 then .slot (k / 2) else .fr (k / 2) | k => k) = some p := by
  intro k p h
  cases k with
  | blk i => exact h
  | cell i j => exact h
  | slot q =>
    simp only [Own.callee] at h
    split at h
    · exact h
    · cases h
  | arg j => cases h
  | fr k =>
    simp only [Own.callee] at h ⊢
    split at h
    · rename_i hk; simp only [hk, if_true]; exact h
    · rename_i hk; simp only [hk, if_false]; exact h

theorem callee_foot (ρ : Own) (n m : Nat) (h : ∀ j, m ≤ j → ρ (.arg j) = none) : foot (ρ.callee n m) = foot ρ := by
  funext b o
  refine propext ⟨foot_rename _ (callee_up ρ n m) b o, fun ⟨k, q, hk, hq⟩ => ?_⟩
  cases k with
  | blk i => exact ⟨.blk i, q, hk, hq⟩
  | cell i j => exact ⟨.cell i j, q, hk, hq⟩
  | slot s => exact ⟨.fr (2 * s), q, by simp [Own.callee, hk], hq⟩
  | fr k =>
    refine ⟨.fr (2 * k + 1), q, ?_, hq⟩
    simp only [Own.callee]
    rw [if_neg (by omega), show (2 * k + 1) / 2 = k by omega]; exact hk
  | arg j =>
    have : j < m := by
      rcases Nat.lt_or_ge j m with h1 | h1
      · exact h1
      · rw [h j h1] at hk; cases hk
    exact ⟨.slot (n + j), q, by simp only [Own.callee]; rw [if_pos (by omega), show n + j - n = j by omega]; exact hk, hq⟩

theorem callee_sep {ρ : Own} {w : World} (s : Sep ρ w) (n m : Nat) : Sep (ρ.callee n m) w := by
  refine s.rename _ (callee_up ρ n m) (fun k k' p p' h h' e => ?_)
  cases k with
  | arg j => cases h
  | slot q =>
    cases k' with
    | slot q' =>
      simp only [Own.callee] at h h'
      split at h <;> split at h' <;> first | cases h | cases h' | skip
      simp at e; congr 1; omega
    | arg j => cases h'
    | fr k => dsimp only at e; split at e <;> cases e
    | blk i => cases e
    | cell i j => cases e
  | fr k =>
    cases k' with
    | slot q' => dsimp only at e; split at e <;> cases e
    | arg j => cases h'
    | fr k' =>
      dsimp only at e
      split at e <;> split at e <;> simp at e
      · congr 1; omega
      · congr 1; omega
    | blk i => dsimp only at e; split at e <;> cases e
    | cell i j => dsimp only at e; split at e <;> cases e
  | blk i =>
    cases k' with
    | slot q' => cases e
    | arg j => cases h'
    | fr k => dsimp only at e; split at e <;> cases e
    | blk i => exact e
    | cell i j => cases e
  | cell i j =>
    cases k' with
    | slot q' => cases e
    | arg j => cases h'
    | fr k => dsimp only at e; split at e <;> cases e
    | blk i => cases e
    | cell i j => exact e

theorem back_up (ρ : Own) : ∀ k p, ρ.back k = some p → ρ (match k with | .slot s => .fr (2 * s) | .fr k => .fr (2 * k + 1) | .arg _ => .slot 0 | k => k) = some p := by
  intro k p h
  cases k with
  | arg j =>
    simp only [Own.back] at h
    split at h
    · exact h
    · cases h
  | _ => exact h

theorem back_foot (ρ : Own) (h1 : ∀ s, s ≠ 0 → ρ (.slot s) = none) (h2 : ∀ j, ρ (.arg j) = none) : foot ρ.back = foot ρ := by
  funext b o
  refine propext ⟨foot_rename _ (back_up ρ) b o, fun ⟨k, q, hk, hq⟩ => ?_⟩
  cases k with
  | blk i => exact ⟨.blk i, q, hk, hq⟩
  | cell i j => exact ⟨.cell i j, q, hk, hq⟩
  | slot s =>
    by_cases hs : s = 0
    · subst hs; exact ⟨.arg 0, q, by simp [Own.back, hk], hq⟩
    · rw [h1 s hs] at hk; cases hk
  | arg j => rw [h2 j] at hk; cases hk
  | fr k =>
    by_cases hp : k % 2 = 0
    · exact ⟨.slot (k / 2), q, by simp only [Own.back]; rw [show 2 * (k / 2) = k by omega]; exact hk, hq⟩
    · exact ⟨.fr (k / 2), q, by simp only [Own.back]; rw [show 2 * (k / 2) + 1 = k by omega]; exact hk, hq⟩

theorem back_sep {ρ : Own} {w : World} (s : Sep ρ w) : Sep ρ.back w := by
  refine s.rename _ (back_up ρ) (fun k k' p p' h h' e => ?_)
  cases k <;> cases k' <;> simp at e <;> first
    | (obtain ⟨rfl, rfl⟩ := e; rfl)
    | (congr 1; omega)
    | (simp only [Own.back] at h h'; split at h <;> split at h' <;> first | cases h | cases h' | (subst_vars; rfl))
    | (obtain ⟨rfl, rfl⟩ := e; rfl)
    | (subst e; rfl)
    | omega

section
variable {P : Program} {E : LblP} {nt : Cx} {φ : Fr} {H : Heap} {ρ : Own} {ι : Places} {a : Act} {w : World} {o : Oper}

theorem StA.call_gen {vs : List V} {xs : List Value} (s : StA E nt φ H ρ ι a w vs xs) {first cap : List V} {fs cs : Array Value} {r : V} {H' : Heap} (K : (Ending → World → Prop) → Prop) (kmono : ∀ {A B : Ending → World → Prop}, K A → (∀ e w', A e w' → B e w') → K B)
    (hc : ∀ ρ' : Own, Mem E H ι ρ' w → Sep ρ' w → (fs ++ xs.toArray ++ cs).size = (first ++ vs ++ cap).length →
      (∀ (j : Nat) (v : V) (x : Value), (first ++ vs ++ cap)[j]? = some v → (fs ++ xs.toArray ++ cs)[j]? = some x → RL w (foot ρ') ι v x (ρ' (.slot j))) → (∀ j, (first ++ vs ++ cap).length ≤ j → ρ' (.slot j) = none) → (∀ j, ρ' (.arg j) = none) → K (Left E r H' ρ' ι w))
    (h1 : fs.size = first.length) (h2 : cs.size = cap.length) (hf : ∀ (j : Nat) (v : V) (y : Value), first[j]? = some v → fs[j]? = some y → R w (foot ρ) ι v y) (hcap : ∀ (j : Nat) (v : V) (y : Value), cap[j]? = some v → cs[j]? = some y → R w (foot ρ) ι v y) :
    K fun e w' => ∃ x, e = .returned x ∧ ∃ ρ' ι', StA E nt φ H' ρ' ι' a w' [r] [x] ∧ Goes ρ ι w ρ' ι' w' := by
  have hft := callee_foot ρ first.length vs.length s.an
  have hal := s.al
  refine kmono (hc (ρ.callee first.length vs.length) (s.mem.own (fun _ => rfl) (fun _ _ => rfl) (by rw [hft]; exact fun _ _ h => h)) (callee_sep s.sep _ _) (by simp; omega) (fun j v x hv hx => ?_) (fun j hj => ?_) (fun _ => rfl)) ?_
  · rw [hft]
    by_cases hj1 : j < first.length
    · rw [List.append_assoc, List.getElem?_append_left hj1] at hv
      rw [Array.append_assoc, Array.getElem?_append_left (by omega)] at hx
      have : ρ.callee first.length vs.length (.slot j) = none := by simp only [Own.callee]; rw [if_neg (by omega)]
      rw [this]; exact (hf j v x hv hx).RL
    · by_cases hj2 : j < first.length + vs.length
      · rw [List.append_assoc, List.getElem?_append_right (by omega), List.getElem?_append_left (by omega)] at hv
        rw [Array.append_assoc, Array.getElem?_append_right (by omega), Array.getElem?_append_left (by simp; omega)] at hx
        have : ρ.callee first.length vs.length (.slot j) = ρ (.arg (j - first.length)) := by simp only [Own.callee]; rw [if_pos (by omega)]
        rw [this]
        exact s.ar _ v x hv (by rw [h1] at hx; simpa using hx)
      · rw [List.append_assoc, List.getElem?_append_right (by omega), List.getElem?_append_right (by omega)] at hv
        rw [Array.append_assoc, Array.getElem?_append_right (by omega), Array.getElem?_append_right (by simp; omega)] at hx
        have : ρ.callee first.length vs.length (.slot j) = none := by simp only [Own.callee]; rw [if_neg (by omega)]
        rw [this]
        refine (hcap _ v x hv ?_).RL
        rw [← hx]; congr 1; simp; omega
  · simp only [Own.callee]; rw [if_neg (by simp at hj; omega)]
  · rintro e w' ⟨x, ρ', ι', rfl, hm, hs, hr, hs0, ha0, g⟩
    have hbf := back_foot ρ' hs0 ha0
    have hfr : ∀ q, ρ'.back (.slot q) = ρ (.slot q) := fun q => by
      simp only [Own.back]; rw [g.fr]; simp [Own.callee]
    have hfr2 : ∀ q, ρ'.back (.fr q) = ρ (.fr q) := fun q => by
      simp only [Own.back]; rw [g.fr]; simp only [Own.callee]; rw [if_neg (by omega), show (2 * q + 1) / 2 = q by omega]
    have g2 : Goes ρ ι w ρ'.back ι' w' := by
      have haf : ∀ b o, afoot (ρ.callee first.length vs.length) b o → afoot ρ b o := by
        rintro b o ⟨k, n, hm, hk, hn⟩
        refine ⟨_, n, ?_, callee_up ρ _ _ k _ hk, hn⟩
        cases k <;> first | rfl | (simp [Key.mine] at hm)
      refine ⟨g.kp.mono haf, g.io, fun k b n hm h => ?_, hfr2, fun k b n h hb => g.fz _ b n (back_up ρ' k _ h) hb⟩
      have hup := back_up ρ' k _ h
      by_cases hk : ∃ q, k = .slot q
      · obtain ⟨q, rfl⟩ := hk
        rw [hfr] at h
        exact .inr ⟨_, n, rfl, h, Nat.le_refl _⟩
      · have hm2 : (match k with | .slot s => Key.fr (2 * s) | .fr k => .fr (2 * k + 1) | .arg _ => .slot 0 | k => k).mine = true := by
          cases k <;> first | rfl | exact absurd ⟨_, rfl⟩ hk | (simp [Key.mine] at hm)
        rcases g.fp _ b n hm2 hup with h3 | ⟨k', n', hm', h3, h4⟩
        · exact .inl h3
        · refine .inr ⟨_, n', ?_, callee_up ρ _ _ _ _ h3, h4⟩
          cases k' <;> first | rfl | (simp [Key.mine] at hm')
    refine ⟨x, rfl, ρ'.back, ι', ⟨s.sz, s.df.kp g2.kp, fun q => by rw [hfr]; exact (s.sl q).ext g2 (hfr q), rfl, fun j v y h h' => ?_, fun j hj => ?_, hm.own (fun _ => rfl) (fun _ _ => rfl) (by rw [hbf]; exact fun _ _ h => h), back_sep hs, s.wd⟩, g2⟩
    · cases j with
      | zero => simp at h h'; subst h; subst h'; rw [hbf]; exact hr
      | succ j => simp at h
    · simp at hj; simp only [Own.back]; rw [if_neg (by omega)]

theorem StA.call {vs : List V} {xs : List Value} (s : StA E nt φ H ρ ι a w vs xs) {f : Nat} {first cap : List V} {fs cs : Array Value} {r : V} {H' : Heap} (hc : RealCall E P f (first ++ vs ++ cap) H r H')
    (h1 : fs.size = first.length) (h2 : cs.size = cap.length) (hf : ∀ (j : Nat) (v : V) (y : Value), first[j]? = some v → fs[j]? = some y → R w (foot ρ) ι v y) (hcap : ∀ (j : Nat) (v : V) (y : Value), cap[j]? = some v → cs[j]? = some y → R w (foot ρ) ι v y) :
    CallOf P f ι (fs ++ xs.toArray ++ cs) w fun e w' => ∃ x, e = .returned x ∧ ∃ ρ' ι', StA E nt φ H' ρ' ι' a w' [r] [x] ∧ Goes ρ ι w ρ' ι' w' :=
  s.call_gen (fun A => CallOf P f ι (fs ++ xs.toArray ++ cs) w A) CallOf.mono (fun ρ' q1 q2 q3 q4 q5 q6 => hc.2 w ρ' ι _ q1 q2 q3 q4 q5 q6) h1 h2 hf hcap

theorem callable_ok {f : Nat} (h : callable P f = true) (args : Array Value) : (callFunc f args).run P w = .ok (.enter f args) w := by
  unfold callable at h
  split at h
  · rename_i fn hfn
    simp only [Bool.and_eq_true, bne_iff_ne, ne_eq] at h
    obtain ⟨h1, h2⟩ := h
    obtain ⟨c, hb⟩ := Option.isSome_iff_exists.1 h2
    simp [callFunc, hfn, h1, hb]
  · cases h

theorem call_ok {call : CallF} (hcall : CallOK E P call) (s : StA E nt φ H ρ ι a w [] []) {f : Nat} (hfy : f < yBase) {Xs : Array Operand} {xs : List AX} (hx : chkXs Xs.toList xs = true) {ts : Array TypeId} (ho : o.op = .call { callee := .value (.func f), args := Xs, argTypes := ts }) {r : V} {H' : Heap}
    (h : call f (takeAll φ xs).1 H = some (r, H')) : Runs P o a w (After E nt (takeAll φ xs).2 H' r ρ ι a w) := by
  obtain ⟨ρ1, s1, g1⟩ := takeAll_ok s hx
  simp only [List.nil_append] at s1
  have hc := hcall.plain h (wideNo_lt hfy)
  have hC := (s1.call (P := P) (first := []) (cap := []) (fs := #[]) (cs := #[]) (by simpa using hc) rfl rfl (by simp) (by simp)).calls hfy
  refine .inr (.inr (.inl ⟨f, Xs.map a.eval, w, ?_, ?_⟩))
  · have := callable_ok (w := w) (hc.1 _ (fnNo_lt hfy)) (Xs.map a.eval)
    simp only [execOp, ho, resolve, Act.eval, Deferred.ofValue, Sem.run_bind, Sem.run_pure, Result.andThen, invoke, Array.empty_append, Array.append_empty]
    exact this
  · have he : (#[] ++ (Xs.toList.map a.eval).toArray ++ #[] : Array Value) = Xs.map a.eval := by apply Array.ext' ; simp
    rw [he] at hC
    refine hC.mono ?_
    rintro e w' ⟨x, rfl, ρ', ι', s', g'⟩
    exact ⟨x, rfl, ρ', ι', s', g1.trans g'⟩

theorem fnParts0_inv {v : V} {f : Nat} {first cap : List V} (h : fnParts0 v = some (f, first, cap)) : v = .fn (.func f) first cap ∧ f < yBase := by
  unfold fnParts0 at h
  split at h
  · split at h
    · simp only [Option.some.injEq, Prod.mk.injEq] at h
      obtain ⟨rfl, rfl, rfl⟩ := h
      exact ⟨rfl, ‹_›⟩
    · cases h
  · cases h

theorem callv_ok {call : CallF} (hcall : CallOK E P call) (s : StA E nt φ H ρ ι a w [] []) {F : Operand} {fx : AX} (hF : chkX F fx = true) {Xs : Array Operand} {xs : List AX} (hx : chkXs Xs.toList xs = true) {ts : Array TypeId} (ho : o.op = .call { callee := .value F, args := Xs, argTypes := ts }) {f : Nat} {first cap : List V} {r : V} {H' : Heap}
    (hf : fnParts (rd φ fx) = some (f, first, cap)) (h : call f (first ++ (takeAll φ xs).1 ++ cap) H = some (r, H')) : Runs P o a w (After E nt (takeAll φ xs).2 H' r ρ ι a w) := by
  have hR := rd_ok s hF
  obtain ⟨ρ1, s1, g1⟩ := takeAll_ok s hx
  simp only [List.nil_append] at s1
  unfold fnParts at hf
  split at hf
  · rename_i i e
    simp only [Option.some.injEq, Prod.mk.injEq] at hf
    obtain ⟨rfl, rfl, rfl⟩ := hf
    have hc := hcall.plain h (wideNo_y i)
    rw [e] at hR
    obtain ⟨l, hl, eF⟩ := hR.yld_inv
    have hC := s1.call (P := P) (first := []) (cap := []) (fs := #[]) (cs := #[]) hc rfl rfl (by simp) (by simp)
    obtain ⟨fn, tmps, assign, body, h1, h2⟩ := hC.yields hl
    have he : (#[] ++ (Xs.toList.map a.eval).toArray ++ #[] : Array Value) = Xs.map a.eval := by apply Array.ext' ; simp
    rw [he] at h1
    refine .inr (.inr (.inr ⟨l, fn, tmps, assign, body, w, ?_, ?_⟩))
    · simp only [execOp, ho, resolve, eF, Deferred.ofValue, Sem.run_bind, Sem.run_pure, Result.andThen, invoke, Array.empty_append, Array.append_empty]
      exact h1
    · refine h2.mono ?_
      rintro e w' ⟨x, rfl, ρ', ι', s', g'⟩
      exact ⟨x, rfl, ρ', ι', s', g1.trans g'⟩
  · obtain ⟨e, hfy⟩ := fnParts0_inv hf
    have hc := hcall.plain h (wideNo_lt hfy)
    rw [e] at hR
    obtain ⟨fs, cs, eF, q1, q2, q3, q4⟩ := hR.fn_inv
    have hC := (s1.call (P := P) hc q1 q2 (fun j v y h h' => (q3 j v y h h').ext g1) (fun j v y h h' => (q4 j v y h h').ext g1)).calls hfy
    refine .inr (.inr (.inl ⟨f, fs ++ Xs.map a.eval ++ cs, w, ?_, ?_⟩))
    · have := callable_ok (w := w) (hc.1 _ (fnNo_lt hfy)) (fs ++ Xs.map a.eval ++ cs)
      simp only [execOp, ho, resolve, eF, Deferred.ofValue, Sem.run_bind, Sem.run_pure, Result.andThen, invoke]
      exact this
    · have he : (fs ++ (Xs.toList.map a.eval).toArray ++ cs : Array Value) = fs ++ Xs.map a.eval ++ cs := by apply Array.ext' ; simp
      rw [he] at hC
      refine hC.mono ?_
      rintro e w' ⟨x, rfl, ρ', ι', s', g'⟩
      exact ⟨x, rfl, ρ', ι', s', g1.trans g'⟩

end
end Go.AM
