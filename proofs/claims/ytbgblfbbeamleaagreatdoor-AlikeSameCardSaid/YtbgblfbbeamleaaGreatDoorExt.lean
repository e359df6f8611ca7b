/-
  Functions of the library that the evaluator takes as given: what is asked of their contracts.
-/
import Derived.Test.YtbgblfbbeamleaaGreatDoorLaw
import Derived.Test.YtbgblfbbeamleaaGreatDoorXlib
namespace Go.AM
set_option linter.unusedVariables false

/-- A call is over: the arguments' slots are free. -/
def Own.rest (ρ : Own) : Own
  | .slot _ => none
  | .arg _ => none
  | k => ρ k

theorem rest_up (ρ : Own) : ∀ k p, ρ.rest k = some p → ρ k = some p := by
  intro k p h
  cases k <;> simp only [Own.rest] at h <;> first | exact h | cases h

theorem kp_below {w w' : World} (h : Go.RowKit.Below w.heap.size w w') : Kp (fun _ _ => False) w w' :=
  ⟨h.os, h.tape, h.output, h.size, fun b hb => by rw [h.block b hb]; exact .refl _ _⟩

/-- A function's contract that reads no memory of ours and turns none: the call as the evaluator takes it. -/
theorem ext_real {E : LblP} {P : Program} {f : Nat} (hf : f < yBase) (hc : callable P f = true) {args : List V} {H : Heap} {r : V} {x : Value} (hr : ∀ w F ι, R w F ι r x) (hro : ∀ k rows, r ≠ .own k rows)
    (h : ∀ (w : World) (xs : Array Value), VarsOK E.gl E.tb w → xs.size = args.length →
      (∀ (j : Nat) (v : V) (y : Value), args[j]? = some v → xs[j]? = some y → ∃ F ι tl, RL w F ι v y tl) → Calls P f xs w fun e w' => e = .returned x ∧ Go.RowKit.Below w.heap.size w w') : RealCall E P f args H r H := by
  refine ⟨fun g hg => by rw [fnNo_lt hf] at hg; cases hg; exact hc, fun w ρ ι xs m s hl hx hs ha => ?_⟩
  unfold CallOf
  rw [fnNo_lt hf]
  refine (h w xs m.glo.vars hl (fun j v y hv hy => ⟨_, _, _, hx j v y hv hy⟩)).mono ?_
  rintro e w' ⟨rfl, hb⟩
  have kp := kp_below hb
  have g0 := Goes.sub ι w (rest_up ρ) (fun _ => rfl)
  have g : Goes ρ ι w ρ.rest ι w' := .of (kp_false kp) (fun _ _ h => h) g0.fp g0.fr (fun b hb => kp.marks hb (fun _ h => h))
  exact ⟨x, ρ.rest, ι, rfl, m.kp s kp (fun _ => rfl) (fun _ _ => rfl) g, ⟨(s.sub (rest_up ρ)).one, fun k b n hk => Nat.lt_of_lt_of_le ((s.sub (rest_up ρ)).here k b n hk) kp.size⟩, (hr _ _ _).RL, fun _ _ => rfl, fun _ => rfl, g⟩

/-- The same, for an answer that lies in memory: in cells that nobody owns. -/
theorem ext_real2 {E : LblP} {P : Program} {f : Nat} (hf : f < yBase) (hc : callable P f = true) {args : List V} {H : Heap} {r : V} (hro : ∀ k rows, r ≠ .own k rows)
    (h : ∀ (w : World) (xs : Array Value) (F : Nat → Nat → Prop) (ι : Places), (∀ b o, F b o → b < w.heap.size) → VarsOK E.gl E.tb w → xs.size = args.length →
      (∀ (j : Nat) (v : V) (y : Value), args[j]? = some v → xs[j]? = some y → ∃ tl, RL w F ι v y tl) → Calls P f xs w fun e w' => ∃ x, e = .returned x ∧ Go.RowKit.Below w.heap.size w w' ∧ R w' F ι r x) : RealCall E P f args H r H := by
  refine ⟨fun g hg => by rw [fnNo_lt hf] at hg; cases hg; exact hc, fun w ρ ι xs m s hl hx hs ha => ?_⟩
  unfold CallOf
  rw [fnNo_lt hf]
  refine (h w xs (foot ρ) ι (fun b o ⟨k, n, hk, _⟩ => s.here k b n hk) m.glo.vars hl (fun j v y hv hy => ⟨_, hx j v y hv hy⟩)).mono ?_
  rintro e w' ⟨x, rfl, hb, hR⟩
  have kp := kp_below hb
  have g0 := Goes.sub ι w (rest_up ρ) (fun _ => rfl)
  have g : Goes ρ ι w ρ.rest ι w' := .of (kp_false kp) (fun _ _ h => h) g0.fp g0.fr (fun b hb => kp.marks hb (fun _ h => h))
  have hfoot : ∀ b o, foot ρ.rest b o → foot ρ b o := fun b o ⟨k, n, hk, hn⟩ => ⟨k, n, rest_up ρ k _ hk, hn⟩
  exact ⟨x, ρ.rest, ι, rfl, m.kp s kp (fun _ => rfl) (fun _ _ => rfl) g, ⟨(s.sub (rest_up ρ)).one, fun k b n hk => Nat.lt_of_lt_of_le ((s.sub (rest_up ρ)).here k b n hk) kp.size⟩, hR.RL.anti hfoot, fun _ _ => rfl, fun _ => rfl, g⟩

/-- The same, for an answer that is a list of its own, in new cells. -/
theorem ext_own {E : LblP} {P : Program} {f : Nat} (hf : f < yBase) (hc : callable P f = true) {args : List V} {H : Heap} {k : Nat} {rows : List (List V)}
    (h : ∀ (w : World) (xs : Array Value) (F : Nat → Nat → Prop) (ι : Places), (∀ b o, F b o → b < w.heap.size) → VarsOK E.gl E.tb w → xs.size = args.length →
      (∀ (j : Nat) (v : V) (y : Value), args[j]? = some v → xs[j]? = some y → ∃ tl, RL w F ι v y tl) → Calls P f xs w fun e w' => ∃ x tl, e = .returned x ∧ Go.RowKit.Below w.heap.size w w' ∧ (∀ b n, tl = some (b, n) → w.heap.size ≤ b ∧ b < w'.heap.size) ∧
        ∀ F' : Nat → Nat → Prop, (∀ b o, F' b o → b < w.heap.size ∨ ∃ n, tl = some (b, n) ∧ n ≤ o) → RO w' F' k rows x tl) : RealCall E P f args H (.own k rows) H := by
  refine ⟨fun g hg => by rw [fnNo_lt hf] at hg; cases hg; exact hc, fun w ρ ι xs m s hl hx hs ha => ?_⟩
  unfold CallOf
  rw [fnNo_lt hf]
  refine (h w xs (foot ρ) ι (fun b o ⟨k, n, hk, _⟩ => s.here k b n hk) m.glo.vars hl (fun j v y hv hy => ⟨_, hx j v y hv hy⟩)).mono ?_
  rintro e w' ⟨x, tl, rfl, hb, htl, hR⟩
  have kp := kp_below hb
  have g0 := Goes.sub ι w (rest_up ρ) (fun _ => rfl)
  have hput : ∀ q, q ≠ .slot 0 → ρ.rest.put (.slot 0) tl q = ρ.rest q := fun q hq => Own.put_other _ _ hq
  have hinv : ∀ q p, ρ.rest.put (.slot 0) tl q = some p → (q = .slot 0 ∧ tl = some p) ∨ (q ≠ .slot 0 ∧ ρ.rest q = some p) := by
    intro q p hq
    by_cases h0 : q = .slot 0
    · subst h0; rw [Own.put_same] at hq; exact .inl ⟨rfl, hq⟩
    · rw [hput q h0] at hq; exact .inr ⟨h0, hq⟩
  have g : Goes ρ ι w (ρ.rest.put (.slot 0) tl) ι w' := by
    refine .of (kp_false kp) (fun _ _ h => h) (fun q b n hm hq => ?_) (fun n => by rw [hput _ (by simp)]; rfl) (fun b hb => kp.marks hb (fun _ h => h))
    rcases hinv q _ hq with ⟨_, h1⟩ | ⟨_, h1⟩
    · exact .inl (htl b n h1).1
    · exact g0.fp q b n hm h1
  have hfoot : ∀ b o, foot (ρ.rest.put (.slot 0) tl) b o → b < w.heap.size ∨ ∃ n, tl = some (b, n) ∧ n ≤ o := by
    rintro b o ⟨q, n, hq, hn⟩
    rcases hinv q _ hq with ⟨_, h1⟩ | ⟨_, h1⟩
    · exact .inr ⟨n, h1, hn⟩
    · exact .inl (s.here q b n (rest_up ρ q _ h1))
  refine ⟨x, ρ.rest.put (.slot 0) tl, ι, rfl, m.kp s kp (fun i => by rw [hput _ (by simp)]; rfl) (fun i j => by rw [hput _ (by simp)]; rfl) g, ⟨fun q q' b n n' h1 h2 => ?_, fun q b n h1 => ?_⟩, ?_, fun q hq => ?_, fun q => by rw [hput _ (by simp)]; rfl, g⟩
  · rcases hinv q _ h1 with ⟨rfl, r1⟩ | ⟨_, r1⟩ <;> rcases hinv q' _ h2 with ⟨rfl, r2⟩ | ⟨_, r2⟩
    · rfl
    · have := (htl _ _ r1).1; have := s.here _ _ _ (rest_up ρ _ _ r2); omega
    · have := (htl _ _ r2).1; have := s.here _ _ _ (rest_up ρ _ _ r1); omega
    · exact (s.sub (rest_up ρ)).one _ _ _ _ _ r1 r2
  · rcases hinv q _ h1 with ⟨rfl, r1⟩ | ⟨_, r1⟩
    · exact (htl _ _ r1).2
    · exact Nat.lt_of_lt_of_le ((s.sub (rest_up ρ)).here q b n r1) kp.size
  · show RO w' _ k rows x _
    rw [Own.put_same]
    exact hR _ hfoot
  · rw [hput _ (by intro e; cases e; exact hq rfl)]; rfl

/-- What a list of texts that is handed stands for. -/
theorem RL_texts {w : World} {F : Nat → Nat → Prop} {ι : Places} {v : V} {rows : List (List V)} {y : Value} {tl} {ws : List (List UInt8)} (hv : v = .sl 1 rows ∨ v = .own 1 rows) (h : RL w F ι v y tl) (ht : textsOf rows = some ws) :
    ∃ a cap, y = .slice a ws.length cap ∧ (ws = [] ∨ ∃ b off, a = some ⟨b, off, none⟩ ∧ b < w.heap.size ∧ ws.length ≤ cap ∧ ∀ (j : Nat) (x : List UInt8), ws[j]? = some x → w.cell? ⟨b, off + j, none⟩ = some (.string ⟨x.toArray⟩)) := by
  have hp : PR w F (.sl 1 rows) y := by
    rcases hv with rfl | rfl
    · have := (RL_other (by simp)).1 h
      cases this.1 with
      | pr h => exact h
    · exact h.1
  have hlen : ∀ (rows : List (List V)) (ws : List (List UInt8)), textsOf rows = some ws → rows.length = ws.length ∧ ∀ (j : Nat) x, ws[j]? = some x → rows[j]? = some [.str x] := by
    intro rows
    induction rows with
    | nil => intro ws h; simp [textsOf] at h; subst h; simp
    | cons r rows ih =>
      intro ws h
      match r, h with
      | [.str s], h =>
        simp only [textsOf, Option.map_eq_some_iff] at h
        obtain ⟨ws', h1, rfl⟩ := h
        obtain ⟨h2, h3⟩ := ih ws' h1
        refine ⟨by simp [h2], fun j x hj => ?_⟩
        cases j with
        | zero => simp at hj; subst hj; rfl
        | succ j => exact h3 j x (by simpa using hj)
  obtain ⟨hl, hr⟩ := hlen rows ws ht
  cases hp with
  | sl _ _ a cap b off vals hcap hn hk ha hcell hrel =>
    refine ⟨a, cap, by rw [hl], ?_⟩
    by_cases hw : ws = []
    · exact .inl hw
    · right
      have hne : rows ≠ [] := by rintro rfl; simp at hl; exact hw (by simpa using hl.symm)
      have hcells : ∀ (j : Nat) (x : List UInt8), ws[j]? = some x → w.cell? ⟨b, off + j, none⟩ = some (.string ⟨x.toArray⟩) := by
        intro j x hj
        have h1 := hr j x hj
        have h2 := (hcell j 0 _ _ h1 rfl).1
        have h3 := hrel j 0 _ _ h1 rfl
        have h4 : vals j 0 = .string ⟨x.toArray⟩ := by
          generalize vals j 0 = y at h3
          cases h3 with
          | str s => rfl
        rw [h4] at h2
        simpa using h2
      refine ⟨b, off, ha hne, ?_, by omega, hcells⟩
      cases ws with
      | nil => exact absurd rfl hw
      | cons x ws' => exact lt_of_obj (cell_obj (hcells 0 x rfl)).choose_spec.choose_spec.choose_spec.1

/-- A list of texts in fresh cells. -/
theorem R_texts {w : World} {F : Nat → Nat → Prop} {ι : Places} (ws : List (List UInt8)) (b : Nat) (hF : ∀ o, ¬ F b o) (hc : ∀ (j : Nat) (x : List UInt8), ws[j]? = some x → w.cell? ⟨b, j, none⟩ = some (.string ⟨x.toArray⟩)) :
    R w F ι (.sl 1 (ws.map tx)) (.slice (some ⟨b, 0, none⟩) ws.length ws.length) := by
  have hat : ∀ (i : Nat) (r : List V), (ws.map tx)[i]? = some r → ∃ x, ws[i]? = some x ∧ r = [.str x] := by
    intro i r h
    rw [List.getElem?_map, Option.map_eq_some_iff] at h
    obtain ⟨x, h1, h2⟩ := h
    exact ⟨x, h1, h2.symm⟩
  have := PR.sl (w := w) (F := F) 1 (ws.map tx) (some ⟨b, 0, none⟩) ws.length b 0 (fun i _ => .string ⟨((ws[i]?).getD []).toArray⟩) (by simp) (fun h => by cases h) (fun r hr => by
      obtain ⟨i, hi⟩ := List.getElem?_of_mem hr
      obtain ⟨x, _, rfl⟩ := hat i r hi; rfl) (fun _ => rfl) (fun i j r v h1 h2 => by
      obtain ⟨x, hx, rfl⟩ := hat i r h1
      rcases j with _ | j
      · refine ⟨?_, hF _⟩
        simp only [hx, Option.getD_some]
        simpa using hc i x hx
      · simp at h2) (fun i j r v h1 h2 => by
      obtain ⟨x, hx, rfl⟩ := hat i r h1
      rcases j with _ | j
      · simp at h2; subst h2
        simp only [hx, Option.getD_some]
        exact .str x
      · simp at h2)
  simp only [List.length_map] at this
  exact .pr this

theorem RL_str {w : World} {F : Nat → Nat → Prop} {ι : Places} {s : List UInt8} {y : Value} {tl} (h : RL w F ι (.str s) y tl) : y = .string ⟨s.toArray⟩ := by
  have := (RL_other (by simp)).1 h
  cases this.1 with
  | pr h => cases h; rfl
theorem RL_int {w : World} {F : Nat → Nat → Prop} {ι : Places} {k : IntKind} {n : Int} {y : Value} {tl} (h : RL w F ι (.int k n) y tl) : y = .int k n := by
  have := (RL_other (by simp)).1 h
  cases this.1 with
  | pr h => cases h; rfl
theorem RL_fn {w : World} {F : Nat → Nat → Prop} {ι : Places} {f : Fn} {y : Value} {tl} (h : RL w F ι (.fn f [] []) y tl) : y = .func f #[] #[] := by
  have := (RL_other (by simp)).1 h
  cases this.1 with
  | pr h => cases h; rfl
  | fn f l m xs ys hs ht h h' =>
    have : xs = #[] := by simpa using hs
    have : ys = #[] := by simpa using ht
    subst_vars; rfl

end Go.AM
