/-
  A law's code in which the order of a drawn region is left open: all orders are run, each with what follows it.
-/
import Derived.Test.YtfbmemcafekbkaaLaw
set_option linter.unusedVariables false
set_option linter.unusedSimpArgs false
namespace Go.AM

/-- Code with open regions. -/
inductive AK where
  | code (c : AC)
  | alt (al : List AOper)
  | seq (a b : AK)
  | cond (x : AX) (a b : AK)
  | block (id : Nat) (b : AK)

def chkK (P : Program) (W : Bool) (nt : Nat) : Code → AK → Bool
  | .region _ ops draw, .alt al => draw && P.follows .mixedOrders && chkOps P W nt ops ops.toList al
  | .seq a b, .seq c d => chkK P W nt a c && chkK P W nt b d
  | .cond X a b, .cond x c d => chkX X x && chkK P W nt a c && chkK P W nt b d
  | .scope b, .seq c d => chkK P W nt b (.seq c d)
  | c, .code a => chkC P W nt c a
  | _, _ => false

def LabK (tbl : Tbl) : AK → Prop
  | .code c => LabC tbl c
  | .alt _ => True
  | .seq a b => LabK tbl a ∧ LabK tbl b
  | .cond _ a b => LabK tbl a ∧ LabK tbl b
  | .block _ b => LabK tbl b

/-- All orders that a region's edges leave open, from a state of it on. -/
def ordersOf (ops : Array Oper) : Nat → Array Bool → List (List Nat)
  | 0, _ => [[]]
  | n + 1, listed => if Region.ready .any ops listed = [] then [[]] else (Region.ready .any ops listed).flatMap fun i => (ordersOf ops n (listed.setIfInBounds i true)).map (i :: ·)

/-- No order goes on for ever. -/
def endsB (ops : Array Oper) : Nat → Array Bool → Bool
  | 0, listed => (Region.ready .any ops listed).isEmpty
  | n + 1, listed => (Region.ready .any ops listed).all fun i => endsB ops n (listed.setIfInBounds i true)

/-- Whatever the order is, Q holds behind it. -/
def AltOK (call : CallF) (ops : Array Oper) (al : List AOper) (Q : Fr → Heap → Prop) : Nat → Array Bool → Fr → Heap → Prop
  | 0, listed, φ, H => Region.ready .any ops listed = [] ∧ Q φ H
  | n + 1, listed, φ, H => (Region.ready .any ops listed = [] → Q φ H) ∧ ∀ i ∈ Region.ready .any ops listed, ∃ φ' H', stepO call (al.getD i default) φ H = some (φ', H') ∧ AltOK call ops al Q n (listed.setIfInBounds i true) φ' H'

theorem orders_ne (ops : Array Oper) : ∀ (n : Nat) (listed : Array Bool), ∃ o, o ∈ ordersOf ops n listed
  | 0, _ => ⟨[], by simp [ordersOf]⟩
  | n + 1, listed => by
    unfold ordersOf
    split
    · exact ⟨[], by simp⟩
    · rename_i h
      obtain ⟨i, hi⟩ := List.exists_mem_of_ne_nil _ h
      obtain ⟨o, ho⟩ := orders_ne ops n (listed.setIfInBounds i true)
      exact ⟨i :: o, List.mem_flatMap.2 ⟨i, hi, List.mem_map.2 ⟨o, ho, rfl⟩⟩⟩

theorem AltOK.of {call : CallF} {ops : Array Oper} {al : List AOper} {Q : Fr → Heap → Prop} : ∀ {n : Nat} {listed : Array Bool} {φ : Fr} {H : Heap}, endsB ops n listed = true →
    (∀ o ∈ ordersOf ops n listed, ∃ r, runOps call (o.map fun i => al.getD i default) φ H = some r ∧ Q r.1 r.2) → AltOK call ops al Q n listed φ H
  | 0, listed, φ, H, he, h => by
    obtain ⟨r, h1, h2⟩ := h [] (by simp [ordersOf])
    simp only [List.map_nil, runOps, Option.some.injEq] at h1
    subst h1; exact ⟨List.isEmpty_iff.1 he, h2⟩
  | n + 1, listed, φ, H, he, h => by
    unfold endsB at he
    unfold ordersOf at h
    by_cases hr : Region.ready .any ops listed = []
    · rw [if_pos hr] at h
      obtain ⟨r, h1, h2⟩ := h [] (by simp)
      simp only [List.map_nil, runOps, Option.some.injEq] at h1
      subst h1
      exact ⟨fun _ => h2, fun i hi => by rw [hr] at hi; cases hi⟩
    · rw [if_neg hr] at h
      refine ⟨fun h0 => absurd h0 hr, fun i hi => ?_⟩
      have key : ∀ o ∈ ordersOf ops n (listed.setIfInBounds i true), ∃ r, runOps call ((i :: o).map fun i => al.getD i default) φ H = some r ∧ Q r.1 r.2 := fun o ho => h _ (List.mem_flatMap.2 ⟨i, hi, List.mem_map.2 ⟨o, ho, rfl⟩⟩)
      obtain ⟨o, ho⟩ := orders_ne ops n (listed.setIfInBounds i true)
      obtain ⟨r, h1, _⟩ := key o ho
      simp only [List.map_cons, runOps] at h1
      split at h1 <;> try cases h1
      rename_i φ1 H1 hs
      refine ⟨φ1, H1, hs, AltOK.of (List.all_eq_true.1 he i hi) fun o ho => ?_⟩
      obtain ⟨r, h1, h2⟩ := key o ho
      simp only [List.map_cons, runOps, hs] at h1
      exact ⟨r, h1, h2⟩

/-- What all outcomes of the code have. -/
def OutK (P : Program) (call : CallF) : Code → AK → Fr → Heap → (AExit → Fr → Heap → Prop) → Prop
  | .region _ ops _, .alt al, φ, H, Q => AltOK call ops al (Q .normal) ops.size (Array.replicate ops.size false) φ H
  | .seq a b, .seq c d, φ, H, Q => OutK P call a c φ H fun e φ H => (e = .normal → OutK P call b d φ H Q) ∧ (e ≠ .normal → Q e φ H)
  | .cond _ a b, .cond x c d, φ, H, Q => (ev φ x = .bool true ∧ OutK P call a c φ H Q) ∨ (ev φ x = .bool false ∧ OutK P call b d φ H Q)
  | .scope b, .seq c d, φ, H, Q => OutK P call b (.seq c d) φ H Q
  | _, .code a, φ, H, Q => ∃ e φ' H', exec call a φ H = some (e, φ', H') ∧ Q e φ' H'
  | _, _, _, _, _ => False

section
variable {P : Program} {E : LblP} {nt : Cx} {φ φ' ψ : Fr} {H H' : Heap} {ρ : Own} {ι : Places} {a : Act} {w : World} {o : Oper} {call : CallF} {v : V} {ops : Array Oper} {al : List AOper}

theorem alt_sound (hcall : CallOK E P call) (hc : chkOps P nt.w nt.n ops ops.toList al = true) {A : Fr → Heap → Prop} {Q : Exit → Act → World → Prop} : ∀ (f : Nat) (listed : Array Bool) (φ : Fr) (H : Heap) (ρ : Own) (ι : Places) (a : Act) (w : World),
    AltOK call ops al A f listed φ H → StA E nt φ H ρ ι a w [] [] →
    (∀ φ' H' a' w' ρ' ι', A φ' H' → StA E nt φ' H' ρ' ι' a' w' [] [] → Goes ρ ι w ρ' ι' w' → Q .normal a' w') → wpAnyIn (wideR nt.rd) 0 P .any ops Q f listed a w
  | 0, listed, φ, H, ρ, ι, a, w, h, s, k => ⟨h.1, k φ H a w ρ ι h.2 s (.refl _ _ _)⟩
  | f + 1, listed, φ, H, ρ, ι, a, w, h, s, k => by
    refine ⟨fun h0 => k φ H a w ρ ι (h.1 h0) s (.refl _ _ _), fun i hi => ?_⟩
    obtain ⟨φ1, H1, h1, h2⟩ := h.2 i hi
    obtain ⟨hu, o, ho, hall⟩ := mem_ready.1 hi
    have hlt : i < ops.size := (Array.getElem?_eq_some_iff.1 ho).1
    have hlen := chkOps_length hc
    simp only [Array.length_toList] at hlen
    have hx : al[i]? = some (al.getD i default) := by
      rw [List.getD_eq_getElem?_getD, List.getElem?_eq_getElem (by omega)]; rfl
    have hchk := chkOps_get hc (by simpa using ho) hx
    simp only [chkOper, Bool.and_eq_true, beq_iff_eq] at hchk
    obtain ⟨⟨⟨⟨hd, hdn⟩, hg⟩, hwd⟩, hop⟩ := hchk
    have hdlt : ∀ m, (al.getD i default).d = some m → m < nt.n := fun m hm => by rw [hm] at hdn; simpa [chkDst] using hdn
    have go : ∀ a' w' ρ' ι', StA E nt φ1 H1 ρ' ι' a' w' [] [] → Goes ρ ι w ρ' ι' w' → wpAnyIn (wideR nt.rd) 0 P .any ops Q f (listed.setIfInBounds i true) a' w' := fun a' w' ρ' ι' s' g' =>
      alt_sound hcall hc f _ φ1 H1 ρ' ι' a' w' h2 s' fun φ2 H2 a2 w2 ρ2 ι2 hA s2 g2 => k φ2 H2 a2 w2 ρ2 ι2 hA s2 (g'.trans g2)
    unfold wpOpIn
    rw [ho]
    dsimp only
    unfold stepO at h1
    split at h1
    · rename_i hw
      split at h1 <;> try cases h1
      rename_i v φ2 H2 hstep
      have hwant := wanted_ok s hg hw
      have hrun := op_sound hcall s _ (wide_or hwd) hop hstep
      rw [if_pos hwant]
      refine hrun.wp nt.rd ?_
      rintro y w1 ⟨ρ1, ι1, s1, g1⟩
      obtain ⟨ρ2, s2, g2⟩ := s1.put _ hdlt
      rw [hd]
      exact go _ _ _ _ s2 (g1.trans g2)
    · rename_i hw
      simp only [Option.some.injEq, Prod.mk.injEq] at h1
      obtain ⟨rfl, rfl⟩ := h1
      have hwant := wanted_ok s hg hw
      have s1 : StA E nt _ _ ρ ι a w [.no] [Go.undef] := s.value .no
      obtain ⟨ρ2, s2, g2⟩ := s1.put _ hdlt
      rw [if_neg (by rw [hwant]; simp), hd]
      exact ⟨fun _ _ => trivial, go _ _ _ _ s2 g2⟩
    · cases h1

theorem outK_sound {tbl : Tbl} {lim : Option Nat} (hcall : CallOK (EL P tbl lim) P call) (hd : DrwOK (EL P tbl lim) P nt call) : ∀ (c : Code) (k : AK), chkK P nt.w nt.n c k = true → LabK tbl k → ∀ (φ : Fr) (H : Heap) (A : AExit → Fr → Heap → Prop), OutK P call c k φ H A →
    ∀ (ρ : Own) (ι : Places) (a : Act) (w : World), StA (EL P tbl lim) nt φ H ρ ι a w [] [] → ∀ Q : Exit → Act → World → Prop, (∀ e φ' H' a' w' ρ' ι', A e φ' H' → StA (EL P tbl lim) nt φ' H' ρ' ι' a' w' [] [] → Goes ρ ι w ρ' ι' w' → Q (exitOf e) a' w') → c.wpIn (wideR nt.rd) 0 P Q a w := by
  have base : ∀ (c : Code) (x : AC), chkC P nt.w nt.n c x = true → LabC tbl x → ∀ (φ : Fr) (H : Heap) (A : AExit → Fr → Heap → Prop), (∃ e φ' H', exec call x φ H = some (e, φ', H') ∧ A e φ' H') →
      ∀ (ρ : Own) (ι : Places) (a : Act) (w : World), StA (EL P tbl lim) nt φ H ρ ι a w [] [] → ∀ Q : Exit → Act → World → Prop, (∀ e φ' H' a' w' ρ' ι', A e φ' H' → StA (EL P tbl lim) nt φ' H' ρ' ι' a' w' [] [] → Goes ρ ι w ρ' ι' w' → Q (exitOf e) a' w') → c.wpIn (wideR nt.rd) 0 P Q a w := by
    rintro c x hc hL φ H A ⟨e, φ1, H1, h1, h2⟩ ρ ι a w s Q k
    obtain ⟨n, hn⟩ := (exec_iff call x φ H _).1 h1
    exact code_sound hcall hd n c x hc hL _ _ _ _ _ _ _ _ _ hn s Q (fun a' w' ρ' ι' s' g' => k e φ1 H1 a' w' ρ' ι' h2 s' g')
  intro c
  induction c with
  | region id ops draw =>
    intro k hc hL φ H A h ρ ι a w s Q kk
    cases k with
    | code x => exact base _ x (by simpa only [chkK] using hc) hL φ H A (by simpa only [OutK] using h) ρ ι a w s Q kk
    | alt al =>
      simp only [chkK, Bool.and_eq_true] at hc
      obtain ⟨⟨rfl, hm⟩, hc⟩ := hc
      simp only [OutK] at h
      refine wpIn_region_any hm ?_
      have k0 : Kp (fun _ _ => False) w { w with drawn := w.drawn + 1 } := kp_drew _ w
      have g0 : Goes ρ ι w ρ ι { w with drawn := w.drawn + 1 } := .of (kp_false k0) (fun _ _ h => h) (fun l b q hm h => .inr ⟨l, q, hm, h, Nat.le_refl _⟩) (fun _ => rfl) (fun _ _ _ => rfl)
      have s0 : StA (EL P tbl lim) nt φ H ρ ι a { w with drawn := w.drawn + 1 } [] [] := s.go g0 (fun _ => rfl) (fun _ => rfl) (s.mem.kp s.sep k0 (fun _ => rfl) (fun _ _ => rfl) g0) ⟨s.sep.one, s.sep.here⟩
      exact alt_sound hcall hc _ _ _ _ _ _ _ _ h s0 fun φ1 H1 a1 w1 ρ1 ι1 hA s1 g1 => kk .normal φ1 H1 a1 w1 ρ1 ι1 hA s1 (g0.trans g1)
    | seq => simp [chkK] at hc
    | cond => simp [chkK] at hc
    | block => simp [chkK] at hc
  | seq x y ihx ihy =>
    intro k hc hL φ H A h ρ ι a w s Q kk
    cases k with
    | code z => exact base _ z (by simpa only [chkK] using hc) hL φ H A (by simpa only [OutK] using h) ρ ι a w s Q kk
    | seq b d =>
      simp only [chkK, Bool.and_eq_true] at hc
      simp only [OutK] at h
      refine wpIn_seq (ihx _ hc.1 hL.1 _ _ _ h ρ ι a w s _ fun e φ1 H1 a1 w1 ρ1 ι1 hA s1 g1 => ?_)
      cases e with
      | normal => exact ihy _ hc.2 hL.2 _ _ _ (hA.1 rfl) ρ1 ι1 a1 w1 s1 _ fun e2 φ2 H2 a2 w2 ρ2 ι2 hB s2 g2 => kk e2 φ2 H2 a2 w2 ρ2 ι2 hB s2 (g1.trans g2)
      | exit i => exact kk _ φ1 H1 a1 w1 ρ1 ι1 (hA.2 (by simp)) s1 g1
      | ret => exact kk _ φ1 H1 a1 w1 ρ1 ι1 (hA.2 (by simp)) s1 g1
    | alt => simp [chkK] at hc
    | cond => simp [chkK] at hc
    | block => simp [chkK] at hc
  | cond X x y ihx ihy =>
    intro k hc hL φ H A h ρ ι a w s Q kk
    cases k with
    | code z => exact base _ z (by simpa only [chkK] using hc) hL φ H A (by simpa only [OutK] using h) ρ ι a w s Q kk
    | cond z b d =>
      simp only [chkK, Bool.and_eq_true] at hc
      simp only [OutK] at h
      have hR := rd_ok s hc.1.1
      rcases h with ⟨he, h⟩ | ⟨he, h⟩
      · rw [rd_ev he rfl] at hR
        exact wpIn_cond_true hR.bool_inv (ihx _ hc.1.2 hL.1 _ _ _ h ρ ι a w s Q kk)
      · rw [rd_ev he rfl] at hR
        exact wpIn_cond_false hR.bool_inv (ihy _ hc.2 hL.2 _ _ _ h ρ ι a w s Q kk)
    | seq => simp [chkK] at hc
    | alt => simp [chkK] at hc
    | block => simp [chkK] at hc
  | scope b ih =>
    intro k hc hL φ H A h ρ ι a w s Q kk
    cases k with
    | code z => exact base _ z (by simpa only [chkK] using hc) hL φ H A (by simpa only [OutK] using h) ρ ι a w s Q kk
    | seq u v =>
      refine wpIn_scope (ih _ (by simpa only [chkK] using hc) hL φ H A (by simpa only [OutK] using h) ρ ι a w s _ fun e φ1 H1 a1 w1 ρ1 ι1 hA s1 g1 => ?_)
      have := kk e φ1 H1 a1 w1 ρ1 ι1 hA s1 g1
      cases e <;> exact this
    | alt => simp [chkK] at hc
    | cond => simp [chkK] at hc
    | block => simp [chkK] at hc
  | _ =>
    intro k hc hL φ H A h ρ ι a w s Q kk
    cases k with
    | code z => exact base _ z (by simpa only [chkK] using hc) hL φ H A (by simpa only [OutK] using h) ρ ι a w s Q kk
    | _ => simp [chkK] at hc

theorem EndM.mono {B : Nat} {fn : Func} {R R' : Ending → World → Prop} {a : Act} {w : World} (h : EndM (P := P) B fn R a w) (hR : ∀ e w, R e w → R' e w) : EndM (P := P) B fn R' a w := by
  obtain ⟨Ds, h1, h2, h3, h4⟩ := h
  exact ⟨Ds, h1, h2, h3, fun w' hs => let ⟨v, q1, q2⟩ := h4 w' hs; ⟨v, q1, hR _ _ q2⟩⟩

/-- A law in its wide form: whatever the open orders, it answers true. -/
theorem lawK {tbl : Tbl} (ih : CallOK (EL P tbl none) P call) (hdrw : ∀ nt call, CallOK (EL P tbl none) P call → DrwOK (EL P tbl none) P nt call) {f : Nat} {fn : Func} {c : Code} {k : AK} {res : List ARes} {args : List V} (hfn : P.funcs[f]? = some fn) (hb : fn.body = some c)
    (hnp : args.length ≤ fn.ntmps) (hres : chkRes P fn.results.toList res = true) (hK : chkK P true fn.ntmps c k = true) (hL : LabK tbl k) (h : OutK P call c k (params 0 args) [] fun e φ' H' => ∃ H'', wideEnd res (e, φ', H') = some (.bool true, H''))
    (w : World) (hg : VarsOK (globs P) (tabs P) w) (xs : Array Value) (hl : xs.size = args.length) (hx : ∀ (j : Nat) (v : V) (x : Value), args[j]? = some v → xs[j]? = some x → R w (fun _ _ => False) [] v x) :
    Calls P f xs w fun e w' => e = .returned (.bool true) ∧ Go.RowKit.Below w.heap.size w w' := by
  have hfalse : foot (fun _ => none) = fun _ _ => False := by
    funext b o
    exact propext ⟨fun ⟨_, _, h, _⟩ => (by cases h), fun h => h.elim⟩
  have hm : Mem (EL P tbl none) [] [] (fun _ => none) w := ⟨rfl, fun i vs h => by simp at h, fun i vs l h => by simp at h, fun _ _ => ⟨rfl, fun _ => rfl⟩, fun _ _ _ _ _ => rfl, ⟨fun g hg' => ⟨hg.1 g hg', fun _ _ _ h => (by cases h)⟩, fun p hp => ⟨hg.2 p hp, tab_here hg hp, fun _ _ _ h => (by cases h)⟩⟩, fun N hN => by cases hN⟩
  have hs : Sep (fun _ => none) w := ⟨fun _ _ _ _ _ h => (by cases h), fun _ _ _ h => (by cases h)⟩
  have main : Calls P f xs w fun e w' => ∃ H', Left (EL P tbl none) (.bool true) H' (fun _ => none) [] w e w' := by
    refine calls_wideR.1 (callsIn_of_wp_marks (F := wideR none) (n := 0) hfn hb trivial ?_)
    have s0 := start_ok (E := EL P tbl none) (n := fn.ntmps) hm hs hl (fun j v x hv hy => by rw [hfalse]; exact R.RL (hx j v x hv hy)) (fun _ _ => rfl) (fun _ => rfl) (by omega) (wf := true) rfl
    refine outK_sound (nt := { n := fn.ntmps, B := w.heap.size, rd := none, w := true }) ih (hdrw _ _ ih) c k hK hL _ _ _ h _ _ _ _ s0 _ (fun e φ' H' a' w' ρ' ι' hA s' g' => ?_)
    obtain ⟨H'', hA⟩ := hA
    obtain ⟨he1, hr1, heq⟩ := wideEnd_some hA
    have hE := (endW_ok (P := P) (fn := fn) s' g' hm hres hr1).mono (R' := fun e w' => ∃ H', Left (EL P tbl none) (.bool true) H' (fun _ => none) [] w e w') (fun e w h => ⟨_, h⟩)
    rcases he1 with h1 | h1 <;> (dsimp only at h1; rw [h1]; exact hE.leaves)
  refine main.mono ?_
  rintro e w' ⟨H', x, ρ', ι', rfl, _, _, hR, _, _, g⟩
  refine ⟨?_, ⟨g.kp.os, g.kp.tape, g.kp.output, g.kp.size, fun k hk => ?_⟩⟩
  · rw [((RL_other (by simp)).1 hR).1.bool_inv]
  · have := g.kp.obj k hk
    unfold ObjKp at this
    split at this
    · rename_i c t fr he
      obtain ⟨c', fr', h1, h2, h3, h4⟩ := this
      rw [h1, he, h4 (fun _ h => by obtain ⟨_, _, _, h, _⟩ := h; cases h)]
      congr 2
      apply Array.ext h2
      intro i hi1 hi2
      have := h3 i (fun h => by obtain ⟨_, _, _, h, _⟩ := h; cases h)
      rw [Array.getElem?_eq_getElem hi1, Array.getElem?_eq_getElem hi2] at this
      exact Option.some.inj this
    · rename_i r he
      obtain ⟨r', h1, h2⟩ := this
      rw [h1, he, h2 (fun h => by obtain ⟨_, _, _, h, _⟩ := h; cases h)]
    · rename_i es n he
      obtain ⟨es', n', h1, h2⟩ := this
      have h2 := h2 (fun h => by obtain ⟨_, _, _, h, _⟩ := h; cases h)
      rw [h1, he, h2.1, h2.2]
    · exact this

end
end Go.AM
