/-
  A call from which all that stands is hidden: it lays blocks of its own behind ours, and leaves ours as they are.
-/
import Derived.Test.YtbgblfbbeamleaaGreatDoorCalm
set_option linter.unusedVariables false
set_option linter.unusedSimpArgs false
namespace Go.AM

section
variable {P : Program} {E : LblP} {nt : Cx} {φ φ' ψ : Fr} {H H' : Heap} {ρ : Own} {ι : Places} {a : Act} {w : World} {o : Oper} {call : CallF} {v : V}

/-- Our owners, and those of the blocks that a call has laid behind ours. -/
def Own.behind (ρ ρ' : Own) (n : Nat) : Own
  | .blk i => if i < n then ρ (.blk i) else ρ' (.blk i)
  | .cell i j => if i < n then ρ (.cell i j) else ρ' (.cell i j)
  | .slot s => ρ (.slot s)
  | .arg j => if j = 0 then ρ' (.slot 0) else ρ (.arg j)
  | .fr n => ρ (.fr n)

theorem hidden_mem (s : StA E nt φ H ρ ι a w [] []) : Mem E (List.replicate H.length none) ι ρ.frames w := by
  refine ⟨by simp [s.mem.len], fun i vs h => ?_, fun i vs l h => ?_, fun _ _ => ⟨rfl, fun _ => rfl⟩, fun _ _ _ _ _ => rfl, s.mem.glo.foot (fun b o h => by rwa [frames_foot] at h), fun N hN => by rw [List.length_replicate]; exact s.mem.lim N hN⟩
  · rw [List.getElem?_replicate] at h
    split at h <;> cases h
  · rw [List.getElem?_replicate] at h
    split at h <;> cases h

theorem own_call (s : StA E nt φ H ρ ι a w [] []) {f g0 : Nat} (hfy : fnNo f = some g0) {vs : List V} {xs : Array Value} {r : V} {K : Heap} (hc : RealCall E P f vs (List.replicate H.length none) r K) (hl : xs.size = vs.length)
    (hx : ∀ (j : Nat) (v : V) (y : Value), vs[j]? = some v → xs[j]? = some y → R w (foot ρ) ι v y) :
    Calls P g0 xs w fun e w' => ∃ x, e = .returned x ∧ After E nt φ (H ++ K.drop H.length) r ρ ι a w x w' := by
  refine ((hc.2 w ρ.frames ι xs (hidden_mem s) (frames_sep s.sep) hl (fun j v x hv hy => ?_) (fun _ _ => rfl) (fun _ => rfl)).callsG hfy).mono ?_
  · rw [frames_foot]; exact (hx j v x hv hy).RL
  · rintro e w' ⟨x, ρ', ι', rfl, hm', hsep', hR, hs0, ha0, g⟩
    have kp : Kp (fun _ _ => False) w w' := g.kp.mono (by
      rintro b o ⟨k, n, hm, hk, _⟩
      obtain ⟨k', rfl, _⟩ := frames_up ρ hk
      simp [Key.mine] at hm)
    have hlen := s.mem.len
    have hlen' := hm'.len
    have hle : H.length ≤ K.length := by
      rcases Nat.lt_or_ge K.length H.length with h | h
      · exfalso
        have h1 : K.length < ι.length := by omega
        have h2 := g.io K.length ι[K.length] (by simp [h1])
        rw [List.getElem?_eq_none (by omega)] at h2; cases h2
      · exact h
    have hget : ∀ i, H.length ≤ i → (H ++ K.drop H.length)[i]? = K[i]? := fun i hi => by
      rw [List.getElem?_append_right hi, List.getElem?_drop]; congr 1; omega
    -- what is not a caller's is new
    have hnew : ∀ k b n, k.mine = true → ρ' k = some (b, n) → w.heap.size ≤ b ∧ b < w'.heap.size := by
      intro k b n hm h
      refine ⟨?_, hsep'.here _ _ _ h⟩
      rcases g.fp _ b n hm h with h1 | ⟨k', n', hm', hk, _⟩
      · exact h1
      · obtain ⟨q, rfl, _⟩ := frames_up ρ hk
        simp [Key.mine] at hm'
    have hsz := kp.size
    -- an owner behind the call is an old one, or one of the call's
    have hinv : ∀ l p, ρ.behind ρ' H.length l = some p → ρ l = some p ∨ ∃ k, k.mine = true ∧ ρ' k = some p ∧ (l = k ∧ (∀ i j, (l = .blk i ∨ l = .cell i j) → H.length ≤ i) ∧ (∀ s, l ≠ .slot s) ∧ (∀ s, l ≠ .arg s) ∨ l = .arg 0 ∧ k = .slot 0) := by
      intro l p h
      cases l with
      | blk i =>
        simp only [Own.behind] at h
        split at h
        · exact .inl h
        · refine .inr ⟨.blk i, rfl, h, .inl ⟨rfl, fun i' j hi => ?_, by simp, by simp⟩⟩
          rcases hi with hi | hi
          · simp at hi; omega
          · simp at hi
      | cell i j =>
        simp only [Own.behind] at h
        split at h
        · exact .inl h
        · refine .inr ⟨.cell i j, rfl, h, .inl ⟨rfl, fun i' j' hi => ?_, by simp, by simp⟩⟩
          rcases hi with hi | hi
          · simp at hi
          · simp at hi; omega
      | slot q => exact .inl h
      | fr q => exact .inl h
      | arg j =>
        simp only [Own.behind] at h
        split at h
        · rename_i hj; subst hj; exact .inr ⟨.slot 0, rfl, h, .inr ⟨rfl, rfl⟩⟩
        · exact .inl h
    have hF : ∀ b o, foot (ρ.behind ρ' H.length) b o → foot ρ' b o := by
      rintro b o ⟨l, q, hl, hq⟩
      rcases hinv l _ hl with h1 | ⟨k, _, h1, _⟩
      · exact ⟨.fr (kenc l), q, by rw [g.fr, frames_at]; exact h1, hq⟩
      · exact ⟨k, q, h1, hq⟩
    have g2 : Goes ρ ι w (ρ.behind ρ' H.length) ι' w' := by
      refine .of (kp_false kp) g.io (fun l b q hm h => ?_) (fun _ => rfl) (fun b hb => kp.marks hb (fun _ h => h))
      rcases hinv l _ h with h1 | ⟨k, hk, h1, _⟩
      · exact .inr ⟨l, q, hm, h1, Nat.le_refl _⟩
      · exact .inl (hnew k b q hk h1).1
    have hobj : ∀ b, b < w.heap.size → w'.heap[b]? = w.heap[b]? := fun b hb => by
      have h := kp.obj b hb
      unfold ObjKp at h
      split at h
      · rename_i c t fr hc
        obtain ⟨c', fr', h1, h2, h3, h4⟩ := h
        rw [h1, hc, h4 (fun _ h => h)]
        congr 2
        apply Array.ext h2
        intro i hi hi'
        have := h3 i (fun h => h)
        simpa [hi, hi'] using this
      · rename_i r hr
        obtain ⟨r', h1, h2⟩ := h
        rw [h1, hr, h2 (fun h => h)]
      · rename_i es n hr
        obtain ⟨es', n', h1, h2⟩ := h
        rw [h1, hr, (h2 (fun h => h)).1, (h2 (fun h => h)).2]
      · exact h
    refine ⟨x, rfl, ρ.behind ρ' H.length, ι', ⟨s.sz, s.df.kp kp, fun i => (s.sl i).ext (k := .slot i) g2 rfl, rfl, fun j u y h1 h2 => ?_, fun j hj => ?_, ⟨?_, fun i ws hi hne => ?_, fun i ws l hi hl => ?_, fun i hi => ?_, fun i ws j hi hj => ?_, s.mem.glo.ext g2, fun N hN => by have := s.mem.lim N hN; simp; omega⟩, ⟨fun l l' b q q' h h' => ?_, fun l b q h => ?_⟩, s.wd⟩, g2⟩
    · cases j with
      | zero =>
        simp at h1 h2; subst h1; subst h2
        show RL w' (foot (ρ.behind ρ' H.length)) ι' r x (ρ' (.slot 0))
        exact hR.anti hF
      | succ j => simp at h1
    · simp only [Own.behind]
      rw [if_neg (by simp at hj; omega)]
      exact s.an j (by simp)
    · simp; omega
    · by_cases hi0 : i < H.length
      · rw [List.getElem?_append_left hi0] at hi
        obtain ⟨p, hp⟩ : ∃ p, ι[i]? = some p := ⟨ι[i]'(by omega), by simp [hlen, hi0]⟩
        obtain ⟨b, base, c, t1, fr, r1, r2, r3, r4, r5, r6⟩ := s.mem.blk i ws hi (fun l hl => hne l (g.io _ _ hl))
        refine ⟨b, base, c, t1, fr, g.io _ _ r1, by simp only [Own.behind]; rw [if_pos hi0]; exact r2, by rw [hobj _ (lt_of_obj r3)]; exact r3, r4, fun o h1 h2 => by rw [kp.marks (lt_of_obj r3) (fun _ h => h)]; exact r5 o h1 h2, fun j v hj => ?_⟩
        obtain ⟨y, q1, q2, q3⟩ := r6 j v hj
        refine ⟨y, q1, ?_, q3⟩
        simp only [Own.behind]; rw [if_pos hi0]; exact q2.ext g2 (by simp only [Own.behind]; rw [if_pos hi0])
      · rw [hget i (by omega)] at hi
        obtain ⟨b, base, c, t1, fr, r1, r2, r3, r4, r5, r6⟩ := hm'.blk i ws hi hne
        refine ⟨b, base, c, t1, fr, r1, by simp only [Own.behind]; rw [if_neg hi0]; exact r2, r3, r4, r5, fun j v hj => ?_⟩
        obtain ⟨y, q1, q2, q3⟩ := r6 j v hj
        refine ⟨y, q1, ?_, q3⟩
        simp only [Own.behind]; rw [if_neg hi0]; exact q2.anti hF
    · by_cases hi0 : i < H.length
      · rw [List.getElem?_append_left hi0] at hi
        obtain ⟨p, hp⟩ : ∃ p, ι[i]? = some p := ⟨ι[i]'(by omega), by simp [hlen, hi0]⟩
        have hp2 := g.io _ _ hp
        rw [hl] at hp2
        simp only [Option.some.injEq] at hp2
        subst hp2
        exact (s.mem.rcd i ws l hi hp).ext g2 (by simp only [Own.behind]; rw [if_pos hi0]) (fun j => by simp only [Own.behind]; rw [if_pos hi0]) (fun _ b n _ hb => hobj _ (s.sep.here _ _ _ hb))
      · rw [hget i (by omega)] at hi
        exact (hm'.rcd i ws l hi hl).mono (fun b o y h1 h2 => ⟨h1, fun h3 => h2 (hF _ _ h3)⟩) (fun _ _ h => h) (fun _ _ h => h) (by simp only [Own.behind]; rw [if_neg hi0]) (fun j => by simp only [Own.behind]; rw [if_neg hi0]) (fun _ _ _ _ _ => rfl)
    · simp only [Own.behind]
      by_cases hi0 : i < H.length
      · simp only [if_pos hi0]
        exact s.mem.dead i (fun ws hw => hi ws (by rw [List.getElem?_append_left hi0]; exact hw))
      · simp only [if_neg hi0]
        exact hm'.dead i (fun ws hw => hi ws (by rw [hget i (by omega)]; exact hw))
    · simp only [Own.behind]
      by_cases hi0 : i < H.length
      · rw [if_pos hi0]
        rw [List.getElem?_append_left hi0] at hi
        exact s.mem.past i ws j hi hj
      · rw [if_neg hi0]
        rw [hget i (by omega)] at hi
        exact hm'.past i ws j hi hj
    · rcases hinv l _ h with h1 | ⟨k, hk, h1, h2⟩ <;> rcases hinv l' _ h' with h1' | ⟨k', hk', h1', h2'⟩
      · exact s.sep.one _ _ _ _ _ h1 h1'
      · have := (hnew k' b q' hk' h1').1; have := s.sep.here _ _ _ h1; omega
      · have := (hnew k b q hk h1).1; have := s.sep.here _ _ _ h1'; omega
      · have hkk := hsep'.one _ _ _ _ _ h1 h1'
        subst hkk
        rcases h2 with ⟨rfl, _, h3, _⟩ | ⟨rfl, rfl⟩ <;> rcases h2' with ⟨rfl, _, h3', _⟩ | ⟨rfl, h4⟩
        · rfl
        · exact absurd h4 (h3 0)
        · exact absurd rfl (h3' 0)
        · rfl
    · rcases hinv l _ h with h1 | ⟨k, hk, h1, _⟩
      · have := s.sep.here _ _ _ h1; omega
      · exact (hnew k b q hk h1).2

theorem callx_ok (hcall : CallOK E P call) (s : StA E nt φ H ρ ι a w [] []) {f : Nat} (hfy : f < yBase) {Xs : Array Operand} {xs : List AX} (hx : chkXs Xs.toList xs = true) {ts : Array TypeId} (ho : o.op = .call { callee := .value (.func f), args := Xs, argTypes := ts }) {r : V} {K : Heap}
    (h : call f (xs.map (rd φ)) (List.replicate H.length none) = some (r, K)) : Runs P o a w (After E nt φ (H ++ K.drop H.length) r ρ ι a w) := by
  have hcl := hcall.plain h (wideNo_lt hfy)
  have hC := own_call (xs := Xs.map a.eval) s (fnNo_lt hfy) hcl (by have := chkXs_length hx; simpa using this) (args_R s hx)
  refine .inr (.inr (.inl ⟨f, Xs.map a.eval, w, ?_, hC⟩))
  have := callable_ok (w := w) (hcl.1 _ (fnNo_lt hfy)) (Xs.map a.eval)
  simp only [execOp, ho, resolve, Act.eval, Deferred.ofValue, Sem.run_bind, Sem.run_pure, Result.andThen, invoke, Array.empty_append, Array.append_empty]
  exact this

/-- The same of the wide form of a function. -/
theorem callxw_ok (hcall : CallOK E P call) (hE : E.lim = none) (s : StA E nt φ H ρ ι a w [] []) {f : Nat} {Xs : Array Operand} {xs : List AX} (hx : chkXs Xs.toList xs = true) {ts : Array TypeId} (ho : o.op = .call { callee := .value (.func f), args := Xs, argTypes := ts }) {r : V} {K : Heap}
    (h : call (wNo f) (xs.map (rd φ)) (List.replicate H.length none) = some (r, K)) : Runs P o a w (After E nt φ (H ++ K.drop H.length) r ρ ι a w) := by
  have hcl := hcall.wide h hE
  have hC := own_call (xs := Xs.map a.eval) s (fnNo_w f) hcl (by have := chkXs_length hx; simpa using this) (args_R s hx)
  refine .inr (.inr (.inl ⟨f, Xs.map a.eval, w, ?_, hC⟩))
  have := callable_ok (w := w) (hcl.1 _ (fnNo_w f)) (Xs.map a.eval)
  simp only [execOp, ho, resolve, Act.eval, Deferred.ofValue, Sem.run_bind, Sem.run_pure, Result.andThen, invoke, Array.empty_append, Array.append_empty]
  exact this

end
end Go.AM
