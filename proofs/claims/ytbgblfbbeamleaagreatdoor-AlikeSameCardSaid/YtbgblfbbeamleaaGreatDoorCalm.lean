/-
  A call that is given no reference and hands none back: it leaves our memory as it is.
-/
import Derived.Test.YtbgblfbbeamleaaGreatDoorCall
set_option linter.unusedVariables false
set_option linter.unusedSimpArgs false
namespace Go.AM

section
variable {P : Program} {E : LblP} {nt : Cx} {φ φ' ψ : Fr} {H H' : Heap} {ρ : Own} {ι : Places} {a : Act} {w : World} {o : Oper} {call : CallF} {v : V}

theorem R.reindex {w : World} {F F' : Nat → Nat → Prop} {ι ι' : Places} {v : V} {x : Value} (h : R w F ι v x) (hf : v.under 0 = true) (hF : ∀ b o, F' b o → F b o) : R w F' ι' v x := by
  have hm : ∀ b o y, w.cell? ⟨b, o, none⟩ = some y → ¬ F b o → w.cell? ⟨b, o, none⟩ = some y ∧ ¬ F' b o := fun b o y h1 h2 => ⟨h1, fun h => h2 (hF b o h)⟩
  induction h with
  | pr h => exact .pr (h.mono hm)
  | agg cs xs hs h ih => exact .agg cs xs hs (fun j v x h1 h2 => ih j v x h1 h2 (underAll_get (by simpa [V.under] using hf) h1))
  | tup cs xs hs h ih => exact .tup cs xs hs (fun j v x h1 h2 => ih j v x h1 h2 (underAll_get (by simpa [V.under] using hf) h1))
  | undef x => exact .undef x
  | no => exact .no
  | ptr => simp [V.under] at hf
  | rp row off b base vals hc hr => exact .rp row off b base vals (fun j v h => hm _ _ _ (hc j v h).1 (hc j v h).2) (fun j v h => (hr j v h).mono hm)
  | ms => simp [V.under] at hf
  | fn f l m xs ys hs ht h h' ih ih' =>
    simp only [V.under, Bool.and_eq_true] at hf
    exact .fn f l m xs ys hs ht (fun j v x h1 h2 => ih j v x h1 h2 (underAll_get hf.1 h1)) (fun j v x h1 h2 => ih' j v x h1 h2 (underAll_get hf.2 h1))
  | yld => simp [V.under] at hf
  | bptr => simp [V.under] at hf
  | mptr => simp [V.under] at hf
  | mg => simp [V.under] at hf
  | mix => simp [V.under] at hf

theorem RL.reindex {w : World} {F F' : Nat → Nat → Prop} {ι ι' : Places} {v : V} {x : Value} {tl : Option (Nat × Nat)} (h : RL w F ι v x tl) (hf : v.under 0 = true) (hF : ∀ b o, F' b o → F b o) : RL w F' ι' v x tl := by
  rcases own_or v with ⟨k, r, rfl⟩ | hv
  · exact RL.anti (ι := ι') h hF
  · rw [RL_other hv] at *; exact ⟨h.1.reindex hf hF, h.2⟩

/-- A number for each owner. -/
def pairN (i j : Nat) : Nat := (i + j) * (i + j) + i
theorem pairN_inj {i j i' j' : Nat} (h : pairN i j = pairN i' j') : i = i' ∧ j = j' := by
  unfold pairN at h
  have key : ∀ s t a b : Nat, a ≤ s → s * s + a = t * t + b → s < t → False := by
    intro s t a b ha h hst
    have := Nat.mul_le_mul (show s + 1 ≤ t from hst) (show s + 1 ≤ t from hst)
    have e : (s + 1) * (s + 1) = s * s + 2 * s + 1 := by rw [Nat.add_mul, Nat.mul_add]; omega
    omega
  rcases Nat.lt_trichotomy (i + j) (i' + j') with h1 | h1 | h1
  · exact (key _ _ i i' (by omega) h h1).elim
  · rw [h1] at h; omega
  · exact (key _ _ i' i (by omega) h.symm h1).elim

def kenc : Key → Nat
  | .blk i => 5 * i
  | .slot s => 5 * s + 1
  | .arg j => 5 * j + 2
  | .fr n => 5 * n + 3
  | .cell i j => 5 * pairN i j + 4

theorem kenc_inj {k k' : Key} (h : kenc k = kenc k') : k = k' := by
  cases k <;> cases k' <;> simp only [kenc] at h <;> first
    | (exfalso; omega)
    | (congr 1; omega)
    | skip
  rename_i i j i' j'
  have h1 : pairN i j = pairN i' j' := by omega
  have h2 := pairN_inj h1
  rw [h2.1, h2.2]

open Classical in
/-- All owners are a caller's. -/
noncomputable def Own.frames (ρ : Own) : Own
  | .fr q => if h : ∃ k, kenc k = q then ρ h.choose else none
  | _ => none

theorem frames_at (ρ : Own) (k : Key) : ρ.frames (.fr (kenc k)) = ρ k := by
  have h : ∃ k', kenc k' = kenc k := ⟨k, rfl⟩
  simp only [Own.frames]
  rw [dif_pos h, kenc_inj h.choose_spec]

theorem frames_up (ρ : Own) {k : Key} {p : Nat × Nat} (h : ρ.frames k = some p) : ∃ k', k = .fr (kenc k') ∧ ρ k' = some p := by
  cases k with
  | fr q =>
    simp only [Own.frames] at h
    split at h
    · rename_i hq
      exact ⟨hq.choose, by rw [hq.choose_spec], h⟩
    · cases h
  | _ => cases h

theorem frames_foot (ρ : Own) : foot ρ.frames = foot ρ := by
  funext b o
  refine propext ⟨fun ⟨k, n, h1, h2⟩ => ?_, fun ⟨k, n, h1, h2⟩ => ⟨.fr (kenc k), n, by rw [frames_at]; exact h1, h2⟩⟩
  obtain ⟨k', _, h3⟩ := frames_up ρ h1
  exact ⟨k', n, h3, h2⟩

theorem frames_sep {ρ : Own} {w : World} (s : Sep ρ w) : Sep ρ.frames w := by
  refine ⟨fun k k' b n n' h h' => ?_, fun k b n h => ?_⟩
  · obtain ⟨q, rfl, h1⟩ := frames_up ρ h
    obtain ⟨q', rfl, h2⟩ := frames_up ρ h'
    rw [s.one _ _ _ _ _ h1 h2]
  · obtain ⟨q, rfl, h1⟩ := frames_up ρ h
    exact s.here _ _ _ h1

/-- A call that is given no reference, and hands none back. -/
theorem calm_call (s : StA E nt φ H ρ ι a w [] []) {f g0 : Nat} (hfy : fnNo f = some g0) {vs : List V} {xs : Array Value} {r : V} {H' : Heap} {lim : Option Nat} (hlim : ∀ N, lim = some N → N ≤ 0) (hc : RealCall (E.at lim) P f vs [] r H') (hl : xs.size = vs.length)
    (hx : ∀ (j : Nat) (v : V) (y : Value), vs[j]? = some v → xs[j]? = some y → R w (foot ρ) ι v y) (hu : V.underAll 0 vs = true) (hr : r.under 0 = true) :
    Calls P g0 xs w fun e w' => ∃ x, e = .returned x ∧ After E nt φ H r ρ ι a w x w' := by
  refine ((hc.2 w ρ.frames [] xs ⟨rfl, fun i vs h => by simp at h, fun i vs l h => by simp at h, fun _ _ => ⟨rfl, fun _ => rfl⟩, fun _ _ _ _ _ => rfl, s.mem.glo.foot (fun b o h => by rwa [frames_foot] at h), fun N hN => hlim N hN⟩ (frames_sep s.sep) hl
    (fun j v x hv hy => ?_) (fun _ _ => rfl) (fun _ => rfl)).callsG hfy).mono ?_
  · rw [frames_foot]; exact ((hx j v x hv hy).reindex (underAll_get hu hv) (fun _ _ h => h)).RL
  · rintro e w' ⟨x, ρ', ι', rfl, _, hsep', hR, _, _, g⟩
    have kp : Kp (fun _ _ => False) w w' := g.kp.mono (by
      rintro b o ⟨k, n, hm, hk, _⟩
      obtain ⟨k', rfl, _⟩ := frames_up ρ hk
      simp [Key.mine] at hm)
    have ha := s.an 0 (by simp)
    obtain ⟨tl, htl⟩ : ∃ tl, tl = ρ' (.slot 0) := ⟨_, rfl⟩
    rw [← htl] at hR
    have hnew : ∀ b n, tl = some (b, n) → w.heap.size ≤ b ∧ b < w'.heap.size := by
      intro b n h
      rw [h] at htl
      refine ⟨?_, hsep'.here _ _ _ htl.symm⟩
      rcases g.fp _ b n rfl htl.symm with h1 | ⟨k', n', hm, hk, _⟩
      · exact h1
      · obtain ⟨q, rfl, _⟩ := frames_up ρ hk
        simp [Key.mine] at hm
    have hinv : ∀ l p, ρ.put (.arg 0) tl l = some p → (l = .arg 0 ∧ tl = some p) ∨ (l ≠ .arg 0 ∧ ρ l = some p) := by
      intro l p h
      by_cases hl : l = .arg 0
      · subst hl; rw [Own.put_same] at h; exact .inl ⟨rfl, h⟩
      · rw [Own.put_other _ _ hl] at h; exact .inr ⟨hl, h⟩
    have hF : ∀ b o, foot (ρ.put (.arg 0) tl) b o → foot ρ' b o := by
      rintro b o ⟨l, q, hl, hq⟩
      rcases hinv l _ hl with ⟨_, h1⟩ | ⟨_, h1⟩
      · exact ⟨.slot 0, q, by rw [← htl]; exact h1, hq⟩
      · exact ⟨.fr (kenc l), q, by rw [g.fr, frames_at]; exact h1, hq⟩
    have g2 : Goes ρ ι w (ρ.put (.arg 0) tl) ι w' := by
      refine .of (kp_false kp) (fun _ _ h => h) (fun l b q hm h => ?_) (fun _ => Own.put_other _ _ (by simp)) (fun b hb => kp.marks hb (fun _ h => h))
      rcases hinv l _ h with ⟨_, h1⟩ | ⟨_, h1⟩
      · exact .inl (hnew b q h1).1
      · exact .inr ⟨l, q, hm, h1, Nat.le_refl _⟩
    refine ⟨x, rfl, ρ.put (.arg 0) tl, ι, ⟨s.sz, s.df.kp kp, fun i => by rw [Own.put_other _ _ (by simp)]; exact (s.sl i).ext g2 (Own.put_other _ _ (by simp)), rfl, fun j u y h1 h2 => ?_, fun j hj => ?_, s.mem.kp s.sep kp (fun _ => Own.put_other _ _ (by simp)) (fun _ _ => Own.put_other _ _ (by simp)) g2, ⟨fun l l' b q q' h h' => ?_, fun l b q h => ?_⟩, s.wd⟩, g2⟩
    · cases j with
      | zero => simp at h1 h2; subst h1; subst h2; rw [Own.put_same]; exact hR.reindex hr hF
      | succ j => simp at h1
    · rw [Own.put_other _ _ (by simp at hj ⊢; omega)]; exact s.an j (by simp)
    · rcases hinv l _ h with ⟨rfl, h1⟩ | ⟨h0, h1⟩ <;> rcases hinv l' _ h' with ⟨rfl, h3⟩ | ⟨h0', h3⟩
      · rfl
      · have := (hnew b q h1).1; have := s.sep.here _ _ _ h3; omega
      · have := (hnew b q' h3).1; have := s.sep.here _ _ _ h1; omega
      · exact s.sep.one _ _ _ _ _ h1 h3
    · rcases hinv l _ h with ⟨_, h1⟩ | ⟨_, h1⟩
      · exact (hnew b q h1).2
      · have := s.sep.here _ _ _ h1; have := kp.size; omega

theorem chkXs_length : ∀ {Xs : List Operand} {xs : List AX}, chkXs Xs xs = true → Xs.length = xs.length
  | [], [], _ => rfl
  | [], _ :: _, h => by simp [chkXs] at h
  | _ :: _, [], h => by simp [chkXs] at h
  | _ :: Xs, _ :: xs, h => by
    simp only [chkXs, Bool.and_eq_true] at h
    simp [chkXs_length h.2]

theorem chkXs_get : ∀ {Xs : List Operand} {xs : List AX} {j : Nat} {X : Operand} {x : AX}, chkXs Xs xs = true → Xs[j]? = some X → xs[j]? = some x → chkX X x = true
  | [], _, _, _, _, _, h, _ => by simp at h
  | _ :: _, [], _, _, _, _, _, h => by simp at h
  | _ :: _, _ :: _, 0, _, _, h, h1, h2 => by
    simp only [chkXs, Bool.and_eq_true] at h
    simp at h1 h2; subst h1 h2; exact h.1
  | _ :: Xs, _ :: xs, j + 1, _, _, h, h1, h2 => by
    simp only [chkXs, Bool.and_eq_true] at h
    exact chkXs_get h.2 (by simpa using h1) (by simpa using h2)

theorem args_R (s : StA E nt φ H ρ ι a w [] []) {Xs : Array Operand} {xs : List AX} (hx : chkXs Xs.toList xs = true) (j : Nat) (v : V) (y : Value) (h1 : (xs.map (rd φ))[j]? = some v) (h2 : (Xs.map a.eval)[j]? = some y) : R w (foot ρ) ι v y := by
  rw [List.getElem?_map, Option.map_eq_some_iff] at h1
  rw [Array.getElem?_map, Option.map_eq_some_iff] at h2
  obtain ⟨x, h3, rfl⟩ := h1
  obtain ⟨X, h4, rfl⟩ := h2
  exact rd_ok s (chkXs_get hx (by simpa using h4) h3)

theorem callCalm_inv {call : CallF} {f : Nat} {vs : List V} {r : V} (h : callCalm call f vs = some r) : ∃ H', V.underAll 0 vs = true ∧ call f vs [] = some (r, H') ∧ r.under 0 = true := by
  unfold callCalm at h
  split at h <;> try cases h
  rename_i hu
  split at h <;> try cases h
  rename_i r' H' hr
  split at h <;> try cases h
  exact ⟨H', hu, hr, ‹_›⟩

theorem callc_ok (hcall : CallOK E P call) (s : StA E nt φ H ρ ι a w [] []) {f : Nat} (hfy : f < yBase) {Xs : Array Operand} {xs : List AX} (hx : chkXs Xs.toList xs = true) {ts : Array TypeId} (ho : o.op = .call { callee := .value (.func f), args := Xs, argTypes := ts })
    (h : callCalm call f (xs.map (rd φ)) = some v) : Runs P o a w (After E nt φ H v ρ ι a w) := by
  obtain ⟨H', hu, hr, hfl⟩ := callCalm_inv h
  have hcl := hcall _ _ _ _ _ hr (some 0) (fun h => by rw [wideNo_lt hfy] at h; cases h)
  have hC := calm_call (xs := Xs.map a.eval) s (fnNo_lt hfy) (fun N h => by cases h; exact Nat.le_refl _) hcl (by have := chkXs_length hx; simpa using this) (args_R s hx) hu hfl
  refine .inr (.inr (.inl ⟨f, Xs.map a.eval, w, ?_, hC⟩))
  have := callable_ok (w := w) (hcl.1 _ (fnNo_lt hfy)) (Xs.map a.eval)
  simp only [execOp, ho, resolve, Act.eval, Deferred.ofValue, Sem.run_bind, Sem.run_pure, Result.andThen, invoke, Array.empty_append, Array.append_empty]
  exact this

/-- The wide form of a function, given no reference. -/
theorem callck_ok (hcall : CallOK E P call) (s : StA E nt φ H ρ ι a w [] []) {f : Nat} {Xs : Array Operand} {xs : List AX} (hx : chkXs Xs.toList xs = true) {ts : Array TypeId} (ho : o.op = .call { callee := .value (.func f), args := Xs, argTypes := ts })
    (h : callCalm call (wNo f) (xs.map (rd φ)) = some v) : Runs P o a w (After E nt φ H v ρ ι a w) := by
  obtain ⟨H', hu, hr, hfl⟩ := callCalm_inv h
  have hcl := hcall _ _ _ _ _ hr none (fun _ => rfl)
  have hC := calm_call (xs := Xs.map a.eval) s (fnNo_w f) (fun N h => by cases h) hcl (by have := chkXs_length hx; simpa using this) (args_R s hx) hu hfl
  refine .inr (.inr (.inl ⟨f, Xs.map a.eval, w, ?_, hC⟩))
  have := callable_ok (w := w) (hcl.1 _ (fnNo_w f)) (Xs.map a.eval)
  simp only [execOp, ho, resolve, Act.eval, Deferred.ofValue, Sem.run_bind, Sem.run_pure, Result.andThen, invoke, Array.empty_append, Array.append_empty]
  exact this

theorem callvc_ok (hcall : CallOK E P call) (s : StA E nt φ H ρ ι a w [] []) {F : Operand} {fx : AX} (hF : chkX F fx = true) {Xs : Array Operand} {xs : List AX} (hx : chkXs Xs.toList xs = true) {ts : Array TypeId} (ho : o.op = .call { callee := .value F, args := Xs, argTypes := ts }) {f : Nat} {first cap : List V}
    (hf : fnParts0 (rd φ fx) = some (f, first, cap)) (h : callCalm call f (first ++ xs.map (rd φ) ++ cap) = some v) : Runs P o a w (After E nt φ H v ρ ι a w) := by
  obtain ⟨H', hu, hr, hfl⟩ := callCalm_inv h
  have hR := rd_ok s hF
  obtain ⟨e, hfy⟩ := fnParts0_inv hf
  rw [e] at hR
  obtain ⟨fs, cs, eF, q1, q2, q3, q4⟩ := hR.fn_inv
  have hcl := hcall _ _ _ _ _ hr (some 0) (fun h => by rw [wideNo_lt hfy] at h; cases h)
  have hlen := chkXs_length hx
  have hC := calm_call (xs := fs ++ Xs.map a.eval ++ cs) s (fnNo_lt hfy) (fun N h => by cases h; exact Nat.le_refl _) hcl (by simp at hlen ⊢; omega) (fun j v y h1 h2 => ?_) hu hfl
  · refine .inr (.inr (.inl ⟨f, fs ++ Xs.map a.eval ++ cs, w, ?_, hC⟩))
    have := callable_ok (w := w) (hcl.1 _ (fnNo_lt hfy)) (fs ++ Xs.map a.eval ++ cs)
    simp only [execOp, ho, resolve, eF, Deferred.ofValue, Sem.run_bind, Sem.run_pure, Result.andThen, invoke]
    exact this
  · simp at hlen
    by_cases hj1 : j < first.length
    · rw [List.append_assoc, List.getElem?_append_left hj1] at h1
      rw [Array.append_assoc, Array.getElem?_append_left (by omega)] at h2
      exact q3 j v y h1 h2
    · by_cases hj2 : j < first.length + xs.length
      · rw [List.append_assoc, List.getElem?_append_right (by omega), List.getElem?_append_left (by simp; omega)] at h1
        rw [Array.append_assoc, Array.getElem?_append_right (by omega), Array.getElem?_append_left (by simp; omega)] at h2
        exact args_R s hx (j - first.length) v y h1 (by rw [q1] at h2; exact h2)
      · rw [List.append_assoc, List.getElem?_append_right (by omega), List.getElem?_append_right (by simp; omega)] at h1
        rw [Array.append_assoc, Array.getElem?_append_right (by omega), Array.getElem?_append_right (by simp; omega)] at h2
        refine q4 _ v y h1 ?_
        rw [← h2]; congr 1; simp; omega

end
end Go.AM
