/-
  The wrap for rows with listed variables, the world's shape kept; arguments that are lists of texts.
-/
import Derived.Test.YtbgblfbbeamleaaGreatDoorOpn
import Derived.Test.YtbgblfbbeamleaaGreatDoorXlib
import Derived.HandedShaped
namespace Go.AM
open Go.ChangeShapes Go.WideShapes Go.Deep
set_option linter.unusedVariables false

theorem returns_door {H : Type} {enc : TypeId × Value → H} {a : Assume} {C : Checked} {os : Os} {f : FuncId} {fn : Func} {s : ChangeSpec} {conds : List PathCond} {apart fresh handsOn again : Bool} {X : World → Array Value → Prop}
    (hX : ∀ (w w' : World) (args : Array Value), w.heap = w'.heap → X w args → X w' args)
    (own : ownKnob C.prog.godebug = none) (started : os.Started) (noInit : C.prog.inits.idxOf? f = none) (hfn : C.prog.funcs[f]? = some fn)
    (witness : ∃ (w : World) (tape : Tape) (i : Input), w.os = os ∧ (w.forCall tape i).Shaped C.prog ∧ i.vars = [] ∧ Input.okWide C.prog (w.forCall tape i) .any w.heap.size f i ∧
      ((s.pre enc C.prog fn conds apart (w.forCall tape i).memory i.args ∧ X (w.forCall tape i).memory i.args) ∧ sizedMet enc C.prog fn (OpenSpec.ofChange s) apart (w.forCall tape i).memory i.args) ∧ a.holds C.prog (lone (Frame.enter C.prog f i.args .normal) [] (w.forCall tape i)))
    (contract : ∀ (W : World) (base : Nat) (args : Array Value) (ds gs : List (DataW H)) (before : List MemPlace),
      (∀ (j : Nat) t v, fn.params[j]? = some t → args[j]? = some v → Value.okWide C.prog W .any base t v) →
      DataW.Whole enc C.prog fn.params.toList s.vars apart W args.toList ds gs before →
      conds.all (PathCond.test C.prog ⟨fn.params.toList, ds, s.plain.varTypes C.prog, gs⟩) = true → W.ShapedOpen C.prog → X W args →
      Calls C.prog f args W fun e W' => ∃ v, e = .returned v ∧ s.post enc C.prog fn apart fresh handsOn again W args v W') :
    ReturnsInHanded a C os f .any (fun w args => (s.pre enc C.prog fn conds apart w args ∧ X w args) ∧ sizedMet enc C.prog fn (OpenSpec.ofChange s) apart w args) (s.post enc C.prog fn apart fresh handsOn again) := by
  refine returnsInHanded_of_calls own started noInit witness ?_
  intro w tape i _ hsh _ hok hpre hholds
  obtain ⟨_, _, _, fn', hfn', _, _, _, _, hval⟩ := hok
  have e : fn' = fn := Option.some.inj (hfn'.symm.trans hfn)
  subst e
  obtain ⟨⟨⟨ds, gs, before, hw, hc⟩, hx⟩, hz⟩ := hpre
  have hw' := DataW.Whole.of_heap (w' := w.forCall tape i) (by rfl) hw
  refine (contract (w.forCall tape i) w.heap.size i.args ds gs before hval hw' hc hsh (hX _ _ _ (by rfl) hx)).mono fun e W' ⟨v, he, hp⟩ => ?_
  subst he
  exact ChangeSpec.post_blind hp

theorem laidMet_rest {P : Program} {x : String × DataW Unit} {r : List (String × DataW Unit)} {w : World} (h : laidMet P (x :: r) w) : laidMet P r w := by
  obtain ⟨ps, hv, hnd, hrows⟩ := h
  obtain ⟨n, d⟩ := x
  obtain ⟨g, t, cs, fuel, p, q, _, _, _, _, hq, rfl⟩ := hv
  exact ⟨q, hq, List.Nodup.sublist (List.sublist_append_right _ _) hnd, fun b off hm => hrows b off (List.mem_append_right _ hm)⟩

section
variable {H : Type} {enc : TypeId × Value → H} {P : Program} {w : World}

/-- An argument that is a list of texts. -/
theorem open_texts {t e : TypeId} (hu : P.underlying t = some (.slice e)) (hs : P.underlying e = some .string) (hc : P.cellsOf e = 1) {r : Reach} {b0 : Nat} {v : Value} {d : DataW H} {p : List MemPlace}
    (hv : Value.okWide P w r b0 t v) (h : DataW.Trod enc P w 0 (fun _ => true) true t v d p) :
    ∃ l : List (List UInt8), R w (fun _ _ => False) [] (.sl 1 (l.map tx)) v := by
  have hts : ∀ x ∈ [t, e], plainAt P [t, e] x = true := by
    intro x hx
    simp only [List.mem_cons, List.not_mem_nil, or_false] at hx
    rcases hx with rfl | rfl
    · simp [plainAt, hu, hc]
    · simp [plainAt, hs]
  obtain ⟨a, len, cap, rfl⟩ := okWide_slice hu hv
  obtain ⟨vs, hty, hpr⟩ := open_list hts (by simp) hu (v := .slice a len cap) rfl h
  generalize hcs : [vs] = cs at hty
  cases hty with
  | bool h b => rw [hu] at h; cases h
  | int h n hw => rw [hu] at h; cases h
  | str h s hs => rw [hu] at h; cases h
  | struct h parts hl hp => rw [hu] at h; cases h
  | arr h parts hl hp => rw [hu] at h; cases h
  | sl h rows hl hr =>
    rw [hu] at h
    cases h
    cases hcs
    rw [hc] at hpr
    have hrows : ∀ rows : List (List V), (∀ r ∈ rows, Ty P e r) → ∃ l : List (List UInt8), rows = l.map tx := by
      intro rows
      induction rows with
      | nil => intro _; exact ⟨[], rfl⟩
      | cons r rows ih =>
        intro h
        obtain ⟨l, rfl⟩ := ih (fun r hr => h r (by simp [hr]))
        have h0 := h r (by simp)
        clear h ih
        cases h0 with
        | bool hq b => rw [hs] at hq; cases hq
        | int hq n hw => rw [hs] at hq; cases hq
        | str hq s hss => exact ⟨s :: l, rfl⟩
        | struct hq parts hl hp => rw [hs] at hq; cases hq
        | arr hq parts hl hp => rw [hs] at hq; cases hq
        | sl hq rows hl hr => rw [hs] at hq; cases hq
    obtain ⟨l, rfl⟩ := hrows rows hr
    exact ⟨l, .pr hpr⟩
end
end Go.AM
