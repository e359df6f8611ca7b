/-
  Functions of the library that the evaluator takes as given: what is asked of their contracts.
-/
import Derived.Test.YtfbnodahmmlfdaaGreatDoorLaw
import Derived.Test.YtfbnodahmmlfdaaGreatDoorXlib
namespace Go.AM
set_option linter.unusedVariables false
def Own.rest (ρ : Own) : Own
 | .slot _ => none
 | .arg _ => none
 | k => ρ k
theorem rest_up (ρ : Own) : ∀ k p, ρ.rest k = some p → ρ k = some p := by
 intro k p h
 cases k <;> simp only [Own.rest] at h <;> first | exact h | cases h
theorem kp_below {w w' : World} (h : Go.RowKit.Below w.heap.size w w') : Kp (fun _ _ => False) w w' :=
 ⟨h.os, h.tape, h.output, h.size, fun b hb => by rw [h.block b hb]; exact .refl _ _⟩
theorem ext_real {E : LblP} {P : Program} {f : Nat} (hf : f < yBase) (hc : callable P f = true) {args : List V} {H : Heap} {r : V} {x : Value} (hr : ∀ w F ι, R w F ι r x) (hro : ∀ k rows, r ≠ .own k rows)
  (h : ∀ (w : World) (xs : Array Value), VarsOK E.gl E.tb w → xs.size = args.length →
   (∀ (j : Nat) (v : V) (y : Value), args[j]? = some v → xs[j]? = some y → ∃ F ι tl, RL w F ι v y tl) → Calls P f xs w fun e w' => e = .returned x ∧ Go.RowKit.Below w.heap.size w w') : RealCall E P f args H r H := by
 refine ⟨fun _ => hc, fun w ρ ι xs m s hl hx hs ha => ?_⟩
 unfold CallOf
 rw [if_pos hf]
 refine (h w xs m.glo.vars hl (fun j v y hv hy => ⟨_, _, _, hx j v y hv hy⟩)).mono ?_
 rintro e w' ⟨rfl, hb⟩
 have kp := kp_below hb
 have g0 := Goes.sub ι w (rest_up ρ) (fun _ => rfl)
 have g : Goes ρ ι w ρ.rest ι w' := .of (kp_false kp) (fun _ _ h => h) g0.fp g0.fr (fun b hb => kp.marks hb (fun _ h => h))
 exact ⟨x, ρ.rest, ι, rfl, m.kp s kp (fun _ => rfl) (fun _ _ => rfl) g, ⟨(s.sub (rest_up ρ)).one, fun k b n hk => Nat.lt_of_lt_of_le ((s.sub (rest_up ρ)).here k b n hk) kp.size⟩, (hr _ _ _).RL, fun _ _ => rfl, fun _ => rfl, g⟩
theorem ext_real2 {E : LblP} {P : Program} {f : Nat} (hf : f < yBase) (hc : callable P f = true) {args : List V} {H : Heap} {r : V} (hro : ∀ k rows, r ≠ .own k rows)
  (h : ∀ (w : World) (xs : Array Value) (F : Nat → Nat → Prop) (ι : Places), (∀ b o, F b o → b < w.heap.size) → VarsOK E.gl E.tb w → xs.size = args.length →
   (∀ (j : Nat) (v : V) (y : Value), args[j]? = some v → xs[j]? = some y → ∃ tl, RL w F ι v y tl) → Calls P f xs w fun e w' => ∃ x, e = .returned x ∧ Go.RowKit.Below w.heap.size w w' ∧ R w' F ι r x) : RealCall E P f args H r H := by
 refine ⟨fun _ => hc, fun w ρ ι xs m s hl hx hs ha => ?_⟩
 unfold CallOf
 rw [if_pos hf]
 refine (h w xs (foot ρ) ι (fun b o ⟨k, n, hk, _⟩ => s.here k b n hk) m.glo.vars hl (fun j v y hv hy => ⟨_, hx j v y hv hy⟩)).mono ?_
 rintro e w' ⟨x, rfl, hb, hR⟩
 have kp := kp_below hb
 have g0 := Goes.sub ι w (rest_up ρ) (fun _ => rfl)
 have g : Goes ρ ι w ρ.rest ι w' := .of (kp_false kp) (fun _ _ h => h) g0.fp g0.fr (fun b hb => kp.marks hb (fun _ h => h))
 have hfoot : ∀ b o, foot ρ.rest b o → foot ρ b o := fun b o ⟨k, n, hk, hn⟩ => ⟨k, n, rest_up ρ k _ hk, hn⟩
 exact ⟨x, ρ.rest, ι, rfl, m.kp s kp (fun _ => rfl) (fun _ _ => rfl) g, ⟨(s.sub (rest_up ρ)).one, fun k b n hk => Nat.lt_of_lt_of_le ((s.sub (rest_up ρ)).here k b n hk) kp.size⟩, hR.RL.anti hfoot, fun _ _ => rfl, fun _ => rfl, g⟩
theorem R_texts {w : World} {F : Nat → Nat → Prop} {ι : Places} (ws : List (List UInt8)) (b : Nat) (hF : ∀ o, ¬ F b o) (hc : ∀ (j : Nat) (x : List UInt8), ws[j]? = some x → w.cell? ⟨b, j, none⟩ = some (.string ⟨x.toArray⟩)) :
  R w F ι (.sl 1 (ws.map tx)) (.slice (some ⟨b, 0, none⟩) ws.length ws.length) := by
 have hat : ∀ (i : Nat) (r : List V), (ws.map tx)[i]? = some r → ∃ x, ws[i]? = some x ∧ r = [.str x] := by
  intro i r h
  rw [List.getElem?_map, Option.map_eq_some_iff] at h
  obtain ⟨x, h1, h2⟩ := h
  exact ⟨x, h1, h2.symm⟩
 have := PR.sl (w := w) (F := F) 1 (ws.map tx) (some ⟨b, 0, none⟩) ws.length b 0 (fun i _ => .string ⟨((ws[i]?).getD []).toArray⟩) (by simp) (fun h => by cases h) (fun r hr => by
   obtain ⟨i, hi⟩ := List.getElem?_of_mem hr
   obtain ⟨x, _, rfl⟩ := hat i r hi; rfl) (fun _ => rfl) (fun i j r v h1 h2 => by
   obtain ⟨x, hx, rfl⟩ := hat i r h1
   rcases j with _ | j
   ·refine ⟨?_, hF _⟩
    simp only [hx, Option.getD_some]
    simpa using hc i x hx
   ·simp at h2) (fun i j r v h1 h2 => by
   obtain ⟨x, hx, rfl⟩ := hat i r h1
   rcases j with _ | j
   ·simp at h2; subst h2
    simp only [hx, Option.getD_some]
    exact .str x
   ·simp at h2)
 simp only [List.length_map] at this
 exact .pr this
theorem RL_str {w : World} {F : Nat → Nat → Prop} {ι : Places} {s : List UInt8} {y : Value} {tl} (h : RL w F ι (.str s) y tl) : y = .string ⟨s.toArray⟩ := by
 have := (RL_other (by simp)).1 h
 cases this.1 with
 | pr h => cases h; rfl
theorem RL_int {w : World} {F : Nat → Nat → Prop} {ι : Places} {k : IntKind} {n : Int} {y : Value} {tl} (h : RL w F ι (.int k n) y tl) : y = .int k n := by
 have := (RL_other (by simp)).1 h
 cases this.1 with
 | pr h => cases h; rfl
theorem RL_fn {w : World} {F : Nat → Nat → Prop} {ι : Places} {f : Fn} {y : Value} {tl} (h : RL w F ι (.fn f [] []) y tl) : y = .func f #[] #[] := by
 have := (RL_other (by simp)).1 h
 cases this.1 with
 | pr h => cases h; rfl
 | fn f l m xs ys hs ht h h' =>
  have : xs = #[] := by simpa using hs
  have : ys = #[] := by simpa using ht
  subst_vars; rfl
end Go.AM
