/-
  Functions of the library that the evaluator takes as given: what is asked of their contracts.
-/
import Derived.Test.YtehbmajjoolcnaaGreatLaw
import Derived.Test.YtehbmajjoolcnaaGreatXlib
namespace Go.AM
set_option linter.unusedVariables false
def Own.rest (ρ : Own) : Own
 | .slot _ => none
 | .arg _ => none
 | k => ρ k
theorem rest_up (ρ : Own) : ∀ k p, ρ.rest k = some p → ρ k = some p := by
 intro k p h
 cases k <;> simp only [Own.rest] at h <;> first | exact h | cases h
theorem kp_below {w w' : World} (h : Go.RowKit.Below w.heap.size w w') : Kp (fun _ _ => False) w w' :=
 ⟨h.os, h.tape, h.output, h.size, fun b hb => by rw [h.block b hb]; exact .refl _ _⟩
theorem ext_real {E : LblP} {P : Program} {f : Nat} (hf : f < yBase) (hc : callable P f = true) {args : List V} {H : Heap} {r : V} {x : Value} (hr : ∀ w F ι, R w F ι r x) (hro : ∀ k rows, r ≠ .own k rows)
  (h : ∀ (w : World) (xs : Array Value), VarsOK E.gl E.tb w → xs.size = args.length →
   (∀ (j : Nat) (v : V) (y : Value), args[j]? = some v → xs[j]? = some y → ∃ F ι tl, RL w F ι v y tl) → Calls P f xs w fun e w' => e = .returned x ∧ Go.RowKit.Below w.heap.size w w') : RealCall E P f args H r H := by
 refine ⟨fun g hg => by rw [fnNo_lt hf] at hg; cases hg; exact hc, fun w ρ ι xs m s hl hx hs ha => ?_⟩
 unfold CallOf
 rw [fnNo_lt hf]
 refine (h w xs m.glo.vars hl (fun j v y hv hy => ⟨_, _, _, hx j v y hv hy⟩)).mono ?_
 rintro e w' ⟨rfl, hb⟩
 have kp := kp_below hb
 have g0 := Goes.sub ι w (rest_up ρ) (fun _ => rfl)
 have g : Goes ρ ι w ρ.rest ι w' := .of (kp_false kp) (fun _ _ h => h) g0.fp g0.fr (fun b hb => kp.marks hb (fun _ h => h))
 exact ⟨x, ρ.rest, ι, rfl, m.kp s kp (fun _ => rfl) (fun _ _ => rfl) g, ⟨(s.sub (rest_up ρ)).one, fun k b n hk => Nat.lt_of_lt_of_le ((s.sub (rest_up ρ)).here k b n hk) kp.size⟩, (hr _ _ _).RL, fun _ _ => rfl, fun _ => rfl, g⟩
theorem RL_str {w : World} {F : Nat → Nat → Prop} {ι : Places} {s : List UInt8} {y : Value} {tl} (h : RL w F ι (.str s) y tl) : y = .string ⟨s.toArray⟩ := by
 have := (RL_other (by simp)).1 h
 cases this.1 with
 | pr h => cases h; rfl
theorem RL_fn {w : World} {F : Nat → Nat → Prop} {ι : Places} {f : Fn} {y : Value} {tl} (h : RL w F ι (.fn f [] []) y tl) : y = .func f #[] #[] := by
 have := (RL_other (by simp)).1 h
 cases this.1 with
 | pr h => cases h; rfl
 | fn f l m xs ys hs ht h h' =>
  have : xs = #[] := by simpa using hs
  have : ys = #[] := by simpa using ht
  subst_vars; rfl
end Go.AM
