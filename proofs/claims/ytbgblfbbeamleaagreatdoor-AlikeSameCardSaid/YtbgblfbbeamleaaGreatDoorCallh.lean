/-
  A call from which one block is hidden: it may turn the others, and leaves that one as it is.
-/
import Derived.Test.YtbgblfbbeamleaaGreatDoorCallx
set_option linter.unusedVariables false
set_option linter.unusedSimpArgs false
namespace Go.AM

/-- Is it the owner of another block? -/
def Key.stays (i : Nat) : Key → Bool
  | .blk j => decide (j ≠ i)
  | .cell j _ => decide (j ≠ i)
  | _ => false

open Classical in
/-- The other blocks are the callee's; all else is a caller's. -/
noncomputable def Own.hide (ρ : Own) (i : Nat) : Own
  | .blk j => if j = i then none else ρ (.blk j)
  | .cell j k => if j = i then none else ρ (.cell j k)
  | .fr q => if h : ∃ k, kenc k = q ∧ k.stays i = false then ρ h.choose else none
  | _ => none

theorem hide_at (ρ : Own) {i : Nat} {k : Key} (hk : k.stays i = false) : ρ.hide i (.fr (kenc k)) = ρ k := by
  have h : ∃ k', kenc k' = kenc k ∧ k'.stays i = false := ⟨k, rfl, hk⟩
  simp only [Own.hide]
  rw [dif_pos h, kenc_inj h.choose_spec.1]

theorem hide_stay (ρ : Own) {i : Nat} {k : Key} (hk : k.stays i = true) : ρ.hide i k = ρ k := by
  cases k <;> simp only [Key.stays, decide_eq_true_eq, Bool.false_eq_true] at hk <;> simp only [Own.hide, if_neg hk]

theorem hide_up (ρ : Own) {i : Nat} {k : Key} {p : Nat × Nat} (h : ρ.hide i k = some p) : (k.stays i = true ∧ ρ k = some p) ∨ ∃ k', k = .fr (kenc k') ∧ k'.stays i = false ∧ ρ k' = some p := by
  cases k with
  | fr q =>
    simp only [Own.hide] at h
    split at h
    · rename_i hq
      exact .inr ⟨hq.choose, by rw [hq.choose_spec.1], hq.choose_spec.2, h⟩
    · cases h
  | blk j =>
    simp only [Own.hide] at h
    split at h
    · cases h
    · exact .inl ⟨by simpa [Key.stays] using ‹_›, h⟩
  | cell j q =>
    simp only [Own.hide] at h
    split at h
    · cases h
    · exact .inl ⟨by simpa [Key.stays] using ‹_›, h⟩
  | _ => cases h

theorem hide_foot (ρ : Own) (i : Nat) : foot (ρ.hide i) = foot ρ := by
  funext b o
  refine propext ⟨fun ⟨k, n, h1, h2⟩ => ?_, fun ⟨k, n, h1, h2⟩ => ?_⟩
  · rcases hide_up ρ h1 with ⟨_, h3⟩ | ⟨k', _, _, h3⟩
    · exact ⟨k, n, h3, h2⟩
    · exact ⟨k', n, h3, h2⟩
  · cases hk : k.stays i with
    | true => exact ⟨k, n, by rw [hide_stay ρ hk]; exact h1, h2⟩
    | false => exact ⟨.fr (kenc k), n, by rw [hide_at ρ hk]; exact h1, h2⟩

theorem hide_sep {ρ : Own} {w : World} (s : Sep ρ w) (i : Nat) : Sep (ρ.hide i) w := by
  refine ⟨fun k k' b n n' h h' => ?_, fun k b n h => ?_⟩
  · rcases hide_up ρ h with ⟨hs, h1⟩ | ⟨q, rfl, hs, h1⟩ <;> rcases hide_up ρ h' with ⟨hs', h2⟩ | ⟨q', rfl, hs', h2⟩
    · exact s.one _ _ _ _ _ h1 h2
    · have := s.one _ _ _ _ _ h1 h2; subst this; rw [hs] at hs'; cases hs'
    · have := s.one _ _ _ _ _ h1 h2; subst this; rw [hs] at hs'; cases hs'
    · rw [s.one _ _ _ _ _ h1 h2]
  · rcases hide_up ρ h with ⟨_, h1⟩ | ⟨q, rfl, _, h1⟩
    · exact s.here _ _ _ h1
    · exact s.here _ _ _ h1

/-- Back from the call. -/
def Own.unhide (ρ ρ' : Own) (i : Nat) : Own
  | .blk j => if j = i then ρ (.blk j) else ρ' (.blk j)
  | .cell j k => if j = i then ρ (.cell j k) else ρ' (.cell j k)
  | .slot s => ρ (.slot s)
  | .arg j => if j = 0 then ρ' (.slot 0) else ρ (.arg j)
  | .fr n => ρ (.fr n)

theorem unhide_inv {ρ ρ' : Own} {i : Nat} {l : Key} {p : Nat × Nat} (h : ρ.unhide ρ' i l = some p) :
    (l.stays i = false ∧ ρ l = some p) ∨ ∃ k, k.mine = true ∧ ρ' k = some p ∧ (l = k ∧ l.stays i = true ∨ l = .arg 0 ∧ k = .slot 0) := by
  cases l with
  | blk j =>
    simp only [Own.unhide] at h
    split at h
    · exact .inl ⟨by simpa [Key.stays] using ‹_›, h⟩
    · exact .inr ⟨.blk j, rfl, h, .inl ⟨rfl, by simpa [Key.stays] using ‹_›⟩⟩
  | cell j q =>
    simp only [Own.unhide] at h
    split at h
    · exact .inl ⟨by simpa [Key.stays] using ‹_›, h⟩
    · exact .inr ⟨.cell j q, rfl, h, .inl ⟨rfl, by simpa [Key.stays] using ‹_›⟩⟩
  | slot q => exact .inl ⟨rfl, h⟩
  | fr q => exact .inl ⟨rfl, h⟩
  | arg j =>
    simp only [Own.unhide] at h
    split at h
    · rename_i hj; subst hj; exact .inr ⟨.slot 0, rfl, h, .inr ⟨rfl, rfl⟩⟩
    · exact .inl ⟨rfl, h⟩

section
variable {P : Program} {E : LblP} {nt : Cx} {φ φ' ψ : Fr} {H H' : Heap} {ρ : Own} {ι : Places} {a : Act} {w : World} {o : Oper} {call : CallF} {v : V}

theorem hid_mem (s : StA E nt φ H ρ ι a w [] []) {i b0 base0 : Nat} (hp : ι[i]? = some (.blk b0 base0)) : Mem E (H.set i none) ι (ρ.hide i) w := by
  have hne : ∀ {j : Nat} {vs : List V}, (H.set i none)[j]? = some (some vs) → j ≠ i ∧ H[j]? = some (some vs) := by
    intro j vs h
    by_cases hj : j = i
    · subst hj
      rw [List.getElem?_set] at h
      simp only [if_true] at h
      split at h <;> cases h
    · exact ⟨hj, by rwa [List.getElem?_set_ne (by omega)] at h⟩
  have hf : ∀ b o, foot (ρ.hide i) b o → foot ρ b o := fun b o h => by rwa [hide_foot] at h
  have hb : ∀ {j : Nat}, j ≠ i → ρ.hide i (.blk j) = ρ (.blk j) := fun hj => hide_stay ρ (by simpa [Key.stays] using hj)
  have hc : ∀ {j : Nat} (q : Nat), j ≠ i → ρ.hide i (.cell j q) = ρ (.cell j q) := fun q hj => hide_stay ρ (by simpa [Key.stays] using hj)
  refine ⟨by simp [s.mem.len], fun j vs h hl => ?_, fun j vs l h hl => ?_, fun j h => ?_, fun j vs q h hq => ?_, s.mem.glo.foot hf, fun N hN => by rw [List.length_set]; exact s.mem.lim N hN⟩
  · obtain ⟨hj, h0⟩ := hne h
    obtain ⟨b, base, c, t, fr, r1, r2, r3, r4, r5, r6⟩ := s.mem.blk j vs h0 hl
    refine ⟨b, base, c, t, fr, r1, by rw [hb hj]; exact r2, r3, r4, r5, fun q v hv => ?_⟩
    obtain ⟨x, q1, q2, q3⟩ := r6 q v hv
    exact ⟨x, q1, by rw [hc q hj]; exact q2.anti hf, q3⟩
  · obtain ⟨hj, h0⟩ := hne h
    exact (s.mem.rcd j vs l h0 hl).mono (fun b o y h1 h2 => ⟨h1, fun h3 => h2 (hf _ _ h3)⟩) (fun _ _ h => h) (fun _ _ h => h) (hb hj) (fun q => hc q hj) (fun _ _ _ _ _ => rfl)
  · by_cases hj : j = i
    · subst hj
      exact ⟨by simp [Own.hide], fun q => by simp [Own.hide]⟩
    · rw [hb hj]
      have := s.mem.dead j (fun vs hv => h vs (by rw [List.getElem?_set_ne (by omega)]; exact hv))
      exact ⟨this.1, fun q => by rw [hc q hj]; exact this.2 q⟩
  · obtain ⟨hj, h0⟩ := hne h
    rw [hc q hj]
    exact s.mem.past j vs q h0 hq

theorem hid_call (s : StA E nt φ H ρ ι a w [] []) {f : Nat} (hfy : f < yBase) {i b0 base0 : Nat} (hp : ι[i]? = some (.blk b0 base0)) {cs : List V} (hi : H[i]? = some (some cs)) {vs : List V} {xs : Array Value} {r : V} {K : Heap}
    (hc : RealCall E P f vs (H.set i none) r K) (hK : K[i]? = some none) (hl : xs.size = vs.length) (hx : ∀ (j : Nat) (v : V) (y : Value), vs[j]? = some v → xs[j]? = some y → R w (foot ρ) ι v y) :
    Calls P f xs w fun e w' => ∃ x, e = .returned x ∧ After E nt φ (K.set i (some cs)) r ρ ι a w x w' := by
  refine ((hc.2 w (ρ.hide i) ι xs (hid_mem s hp) (hide_sep s.sep i) hl (fun j v x hv hy => ?_) (fun _ _ => rfl) (fun _ => rfl)).calls hfy).mono ?_
  · rw [hide_foot]; exact (hx j v x hv hy).RL
  · rintro e w' ⟨x, ρ', ι', rfl, hm', hsep', hR, hs0, ha0, g⟩
    have hfr : ∀ k, k.stays i = false → ρ' (.fr (kenc k)) = ρ k := fun k hk => by rw [g.fr, hide_at ρ hk]
    have hF : ∀ b o, foot (ρ.unhide ρ' i) b o → foot ρ' b o := by
      rintro b o ⟨l, q, hl, hq⟩
      rcases unhide_inv hl with ⟨h1, h2⟩ | ⟨k, _, h1, _⟩
      · exact ⟨.fr (kenc l), q, by rw [hfr l h1]; exact h2, hq⟩
      · exact ⟨k, q, h1, hq⟩
    have haf : ∀ b o, afoot (ρ.hide i) b o → afoot ρ b o := by
      rintro b o ⟨k, n, hm, hk, hn⟩
      rcases hide_up ρ hk with ⟨_, h1⟩ | ⟨k', rfl, _, _⟩
      · exact ⟨k, n, hm, h1, hn⟩
      · simp [Key.mine] at hm
    have g2 : Goes ρ ι w (ρ.unhide ρ' i) ι' w' := by
      refine ⟨g.kp.mono haf, g.io, fun l b q hm h => ?_, fun _ => rfl, fun l b q h hb => ?_⟩
      · rcases unhide_inv h with ⟨_, h1⟩ | ⟨k, hk, h1, _⟩
        · exact .inr ⟨l, q, hm, h1, Nat.le_refl _⟩
        · rcases g.fp k b q hk h1 with h2 | ⟨k', n', hm', h2, h3⟩
          · exact .inl h2
          · rcases hide_up ρ h2 with ⟨_, h4⟩ | ⟨k2, rfl, _, _⟩
            · exact .inr ⟨k', n', hm', h4, h3⟩
            · simp [Key.mine] at hm'
      · rcases unhide_inv h with ⟨h1, h2⟩ | ⟨k, hk, h1, _⟩
        · exact g.fz (.fr (kenc l)) b q (by rw [hfr l h1]; exact h2) hb
        · exact g.fz k b q h1 hb
    have hset : ∀ {j : Nat}, j ≠ i → (K.set i (some cs))[j]? = K[j]? := fun hj => List.getElem?_set_ne (by omega)
    have hKl : i < K.length := by
      rcases Nat.lt_or_ge i K.length with h | h
      · exact h
      · rw [List.getElem?_eq_none h] at hK; cases hK
    have hself : (K.set i (some cs))[i]? = some (some cs) := List.getElem?_set_self hKl
    have hp' := g.io _ _ hp
    have ub : ∀ {j : Nat}, j ≠ i → (ρ.unhide ρ' i) (.blk j) = ρ' (.blk j) := fun hj => by simp only [Own.unhide, if_neg hj]
    have uc : ∀ {j : Nat} (q : Nat), j ≠ i → (ρ.unhide ρ' i) (.cell j q) = ρ' (.cell j q) := fun q hj => by simp only [Own.unhide, if_neg hj]
    have us : (ρ.unhide ρ' i) (.blk i) = ρ (.blk i) := by simp only [Own.unhide, if_true]
    have ut : ∀ q, (ρ.unhide ρ' i) (.cell i q) = ρ (.cell i q) := fun q => by simp only [Own.unhide, if_true]
    refine ⟨x, rfl, ρ.unhide ρ' i, ι', ⟨s.sz, s.df.kp g2.kp, fun q => (s.sl q).ext (k := .slot q) g2 rfl, rfl, fun j u y h1 h2 => ?_, fun j hj => ?_, ⟨?_, fun j ws hj hne => ?_, fun j ws l hj hl => ?_, fun j hj => ?_, fun j ws q hj hq => ?_, s.mem.glo.ext g2, fun N hN => by rw [List.length_set]; exact hm'.lim N hN⟩, ⟨fun l l' b q q' h h' => ?_, fun l b q h => ?_⟩, s.wd⟩, g2⟩
    · cases j with
      | zero =>
        simp at h1 h2; subst h1; subst h2
        show RL w' (foot (ρ.unhide ρ' i)) ι' r x (ρ' (.slot 0))
        exact hR.anti hF
      | succ j => simp at h1
    · simp only [Own.unhide]
      rw [if_neg (by simp at hj; omega)]
      exact s.an j (by simp)
    · simp [hm'.len]
    · by_cases hji : j = i
      · subst hji
        rw [hself] at hj
        cases hj
        obtain ⟨b, base, c, t, fr, r1, r2, r3, r4, r5, r6⟩ := s.mem.blk j _ hi (not_lp hp)
        obtain ⟨c', fr', k1, k2, k3, k4⟩ := g.kp.obj_cells r3
        have hno : ∀ o, ¬ afoot (ρ.hide j) b o := by
          rintro o ⟨k, n, hm, hk, _⟩
          rcases hide_up ρ hk with ⟨h1, h2⟩ | ⟨k', rfl, _, _⟩
          · have := s.sep.one _ _ _ _ _ r2 h2
            subst this
            simp [Key.stays] at h1
          · simp [Key.mine] at hm
        refine ⟨b, base, c', t, fr', g.io _ _ r1, by rw [us]; exact r2, k1, by omega, fun o h1 h2 => ?_, fun q v hv => ?_⟩
        · have k1' := k1
          rw [k4 hno] at k1'
          rw [Marks0.of_cells r3 k1' o]; exact r5 o h1 (by omega)
        · obtain ⟨y, q1, q2, q3⟩ := r6 q v hv
          exact ⟨y, by rw [k3 _ (hno _)]; exact q1, by rw [ut]; exact q2.ext g2 (ut q), q3⟩
      · rw [hset hji] at hj
        obtain ⟨b, base, c, t, fr, r1, r2, r3, r4, r5, r6⟩ := hm'.blk j ws hj hne
        refine ⟨b, base, c, t, fr, r1, by rw [ub hji]; exact r2, r3, r4, r5, fun q v hv => ?_⟩
        obtain ⟨y, q1, q2, q3⟩ := r6 q v hv
        exact ⟨y, q1, by rw [uc q hji]; exact q2.anti hF, q3⟩
    · by_cases hji : j = i
      · subst hji
        rw [hp'] at hl; cases hl
      · rw [hset hji] at hj
        exact (hm'.rcd j ws l hj hl).mono (fun b o y h1 h2 => ⟨h1, fun h3 => h2 (hF _ _ h3)⟩) (fun _ _ h => h) (fun _ _ h => h) (ub hji) (fun q => uc q hji) (fun _ _ _ _ _ => rfl)
    · by_cases hji : j = i
      · subst hji
        exact absurd hself (hj cs)
      · rw [ub hji]
        have := hm'.dead j (fun vs hv => hj vs (by rw [hset hji]; exact hv))
        exact ⟨this.1, fun q => by rw [uc q hji]; exact this.2 q⟩
    · by_cases hji : j = i
      · subst hji
        rw [hself] at hj
        cases hj
        rw [ut]
        exact s.mem.past j _ q hi hq
      · rw [hset hji] at hj
        rw [uc q hji]
        exact hm'.past j ws q hj hq
    · rcases unhide_inv h with ⟨h1, h2⟩ | ⟨k, hk, h1, h2⟩ <;> rcases unhide_inv h' with ⟨h1', h2'⟩ | ⟨k', hk', h1', h2'⟩
      · exact s.sep.one _ _ _ _ _ h2 h2'
      · have := hsep'.one (.fr (kenc l)) k' b q q' (by rw [hfr l h1]; exact h2) h1'
        subst this; simp [Key.mine] at hk'
      · have := hsep'.one k (.fr (kenc l')) b q q' h1 (by rw [hfr l' h1']; exact h2')
        subst this; simp [Key.mine] at hk
      · have hkk := hsep'.one _ _ _ _ _ h1 h1'
        subst hkk
        rcases h2 with ⟨rfl, h3⟩ | ⟨rfl, rfl⟩ <;> rcases h2' with ⟨rfl, h3'⟩ | ⟨rfl, h4⟩
        · rfl
        · subst h4; simp [Key.stays] at h3
        · simp [Key.stays] at h3'
        · rfl
    · rcases unhide_inv h with ⟨h1, h2⟩ | ⟨k, _, h1, _⟩
      · exact hsep'.here (.fr (kenc l)) b q (by rw [hfr l h1]; exact h2)
      · exact hsep'.here k b q h1

theorem callh_ok (hcall : CallOK E P call) (s : StA E nt φ H ρ ι a w [] []) {f : Nat} (hfy : f < yBase) {Xs : Array Operand} {xs : List AX} (hx : chkXs Xs.toList xs = true) {ts : Array TypeId} (ho : o.op = .call { callee := .value (.func f), args := Xs, argTypes := ts })
    {n i off : Nat} (hr : rd φ (.t n) = .ptr i off) {cs : List V} (hi : H[i]? = some (some cs)) {r : V} {K : Heap} (h : call f (xs.map (rd φ)) (H.set i none) = some (r, K)) (hK : K[i]? = some none) : Runs P o a w (After E nt φ (K.set i (some cs)) r ρ ι a w) := by
  have hcl := hcall.plain h (wideNo_lt hfy)
  obtain ⟨b0, base0, hp⟩ : ∃ b0 base0, ι[i]? = some (.blk b0 base0) := by
    have := (s.sl n).R
    change R _ _ _ (rd φ (.t n)) _ at this
    rw [hr] at this
    generalize a.tmps.getD n Go.undef = y at this
    cases this with
    | pr h => cases h
    | ptr i off b base h => exact ⟨b, base, h⟩
  have hC := hid_call (xs := Xs.map a.eval) s hfy hp hi hcl hK (by have := chkXs_length hx; simpa using this) (args_R s hx)
  refine .inr (.inr (.inl ⟨f, Xs.map a.eval, w, ?_, hC⟩))
  have := callable_ok (w := w) (hcl.1 _ (fnNo_lt hfy)) (Xs.map a.eval)
  simp only [execOp, ho, resolve, Act.eval, Deferred.ofValue, Sem.run_bind, Sem.run_pure, Result.andThen, invoke, Array.empty_append, Array.append_empty]
  exact this

theorem callvh_ok (hcall : CallOK E P call) (s : StA E nt φ H ρ ι a w [] []) {F : Operand} {fx : AX} (hF : chkX F fx = true) {Xs : Array Operand} {xs : List AX} (hx : chkXs Xs.toList xs = true) {ts : Array TypeId} (ho : o.op = .call { callee := .value F, args := Xs, argTypes := ts }) {f : Nat} {first cap : List V}
    (hf : fnParts0 (rd φ fx) = some (f, first, cap)) {n i off : Nat} (hr : rd φ (.t n) = .ptr i off) {cs : List V} (hi : H[i]? = some (some cs)) {r : V} {K : Heap} (h : call f (first ++ xs.map (rd φ) ++ cap) (H.set i none) = some (r, K)) (hK : K[i]? = some none) : Runs P o a w (After E nt φ (K.set i (some cs)) r ρ ι a w) := by
  have hR := rd_ok s hF
  obtain ⟨e, hfy⟩ := fnParts0_inv hf
  have hcl := hcall.plain h (wideNo_lt hfy)
  rw [e] at hR
  obtain ⟨fs, gs, eF, q1, q2, q3, q4⟩ := hR.fn_inv
  obtain ⟨b0, base0, hp⟩ : ∃ b0 base0, ι[i]? = some (.blk b0 base0) := by
    have := (s.sl n).R
    change R _ _ _ (rd φ (.t n)) _ at this
    rw [hr] at this
    generalize a.tmps.getD n Go.undef = y at this
    cases this with
    | pr h => cases h
    | ptr i off b base h => exact ⟨b, base, h⟩
  have hlen := chkXs_length hx
  have hC := hid_call (xs := fs ++ Xs.map a.eval ++ gs) s hfy hp hi hcl hK (by simp at hlen ⊢; omega) (fun j v y h1 h2 => ?_)
  · refine .inr (.inr (.inl ⟨f, fs ++ Xs.map a.eval ++ gs, w, ?_, hC⟩))
    have := callable_ok (w := w) (hcl.1 _ (fnNo_lt hfy)) (fs ++ Xs.map a.eval ++ gs)
    simp only [execOp, ho, resolve, eF, Deferred.ofValue, Sem.run_bind, Sem.run_pure, Result.andThen, invoke]
    exact this
  · simp at hlen
    by_cases hj1 : j < first.length
    · rw [List.append_assoc, List.getElem?_append_left hj1] at h1
      rw [Array.append_assoc, Array.getElem?_append_left (by omega)] at h2
      exact q3 j v y h1 h2
    · by_cases hj2 : j < first.length + xs.length
      · rw [List.append_assoc, List.getElem?_append_right (by omega), List.getElem?_append_left (by simp; omega)] at h1
        rw [Array.append_assoc, Array.getElem?_append_right (by omega), Array.getElem?_append_left (by simp; omega)] at h2
        exact args_R s hx (j - first.length) v y h1 (by rw [q1] at h2; exact h2)
      · rw [List.append_assoc, List.getElem?_append_right (by omega), List.getElem?_append_right (by simp; omega)] at h1
        rw [Array.append_assoc, Array.getElem?_append_right (by omega), Array.getElem?_append_right (by simp; omega)] at h2
        refine q4 _ v y h1 ?_
        rw [← h2]; congr 1; simp; omega

end
end Go.AM
