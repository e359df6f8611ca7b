/-
  Regions in the text's order, code, functions: whatever the abstract run gives, the model's call gives.
-/
import Derived.Test.YtddhdalacanngaaExec
import Derived.StillTail
set_option linter.unusedVariables false
set_option linter.unusedSimpArgs false
namespace Go.AM

def chkGuard (ops : Array Oper) : Option (Nat × Bool) → Option (Nat × Bool) → Bool
  | none, none => true
  | some (j, want), some (s, want') => want == want' && ((ops[j]?).bind (·.dst) == some s)
  | _, _ => false

def chkDst (nt : Nat) : Option Nat → Bool
  | none => true
  | some d => decide (d < nt)

def chkOper (P : Program) (nt : Nat) (ops : Array Oper) (o : Oper) (ao : AOper) : Bool :=
  o.dst == ao.d && chkDst nt ao.d && chkGuard ops o.guard ao.g && chkOp P o.op ao.op

def chkOps (P : Program) (nt : Nat) (ops : Array Oper) : List Oper → List AOper → Bool
  | [], [] => true
  | o :: l, ao :: al => chkOper P nt ops o ao && chkOps P nt ops l al
  | _, _ => false

/-- May the region be drawn: the first n operations are calm, each sees what it would see in the text's order, and the rest is a chain that waits for them all. -/
def headB (ops : Array Oper) (al : List AOper) (n : Nat) : Bool :=
  (List.range n).all fun i => ((ops[i]?).map (·.after.all fun e => !Region.binds .any e || decide (e.on < i))).getD true &&
    (List.range n).all fun j => decide (j ≤ i) || Region.waitsFor .any ops j i || ((al[i]?).bind fun x => (al[j]?).map fun y => x.apart y).getD false

def tailB (ops : Array Oper) (n : Nat) : Bool :=
  n == ops.size || (decide (n < ops.size) && Region.sinkB .any ops n && Region.chainB .any ops n && Region.seqB .any ops (ops.size - n) n (Array.ofFn fun i : Fin ops.size => decide (i.1 < n)))

def chkDrw (P : Program) (nt : Nat) (n : Nat) (ops : Array Oper) (al : List AOper) : Bool :=
  P.follows .mixedOrders && chkOps P nt ops ops.toList al && decide (n ≤ ops.size) && headB ops al n && tailB ops n

def chkC (P : Program) (nt : Nat) : Code → AC → Bool
  | .skip, .skip => true
  | .label _, .skip => true
  | .region _ ops draw, .reg al => !draw && chkOps P nt ops ops.toList al
  | .region _ ops draw, .drw n al => draw && chkDrw P nt n ops al
  | .seq a b, .seq c d => chkC P nt a c && chkC P nt b d
  | .cond X a b, .cond x c d => chkX X x && chkC P nt a c && chkC P nt b d
  | .block i b, .block j c => i == j && chkC P nt b c
  | .loop b, .loop _ c => chkC P nt b c
  | .exit i, .exit j => i == j
  | .ret, .ret => true
  | _, _ => false

def chkRes (P : Program) : List ResultVar → List ARes → Bool
  | [], [] => true
  | .tmp t :: rs, .t n :: qs => t == n && chkRes P rs qs
  | .cell a t :: rs, .cell n agg :: qs => a == n && aggIs P t agg && chkRes P rs qs
  | _, _ => false

def chkF (P : Program) (fn : Func) (af : AFunc) : Bool :=
  fn.name != "runtime.NumGoroutine" && decide (af.np ≤ fn.ntmps) && chkRes P fn.results.toList af.res && (match fn.body with | some c => chkC P fn.ntmps c af.body | none => false)

section
variable {P : Program} {nt : Nat} {φ φ' : Fr} {H H' : Heap} {ρ : Own} {ι : Places} {a : Act} {w : World} {o : Oper} {call : CallF} {v : V}

theorem wanted_ok (s : StA nt φ H ρ ι a w [] []) {ops : Array Oper} {g : Option (Nat × Bool)} (hg : chkGuard ops o.guard g = true) {b : Bool} (h : wantedA φ g = some b) : Region.wanted o (yielded ops a.tmps) = b := by
  unfold chkGuard at hg
  split at hg
  · rename_i e
    simp [wantedA] at h
    simp [Region.wanted, e, h]
  · rename_i j want s' want' e
    simp only [Bool.and_eq_true, beq_iff_eq] at hg
    obtain ⟨rfl, hd⟩ := hg
    simp only [wantedA] at h
    have hR := (s.sl s').R
    split at h
    · rename_i x hx
      simp only [Option.some.injEq] at h
      subst h
      rw [hx] at hR
      have e2 := hR.bool_inv
      have hlt : s' < a.tmps.size := by
        rcases Nat.lt_or_ge s' a.tmps.size with h1 | h1
        · exact h1
        · simp [Array.getD, Nat.not_lt.2 h1, Go.undef] at e2
      have e3 : a.tmps[s']? = some (.bool x) := by
        simp [Array.getD, hlt] at e2
        simp [hlt, e2]
      simp [Region.wanted, e, yielded, hd, e3]
    · rename_i hx
      simp only [Option.some.injEq] at h
      subst h
      rw [hx] at hR
      have e2 := hR.no_inv
      have : yielded ops a.tmps j = none := by
        unfold yielded
        rw [hd]
        simp only [Option.bind_some]
        rcases Nat.lt_or_ge s' a.tmps.size with h1 | h1
        · simp [Array.getD, h1] at e2
          simp [h1, e2, Go.undef]
        · simp [Array.getElem?_eq_none h1]
      simp [Region.wanted, e, this]
    · cases h
  · cases hg

theorem ops_sound (hcall : CallOK P call) {ops : Array Oper} {Q : Exit → Act → World → Prop} : ∀ (l : List Oper) (al : List AOper) (φ : Fr) (H : Heap) (ρ : Own) (ι : Places) (a : Act) (w : World), chkOps P nt ops l al = true → runOps call al φ H = some (φ', H') →
    StA nt φ H ρ ι a w [] [] → (∀ a' w' ρ' ι', StA nt φ' H' ρ' ι' a' w' [] [] → Goes ρ ι w ρ' ι' w' → Q .normal a' w') → wpList P ops Q l a w
  | [], [], φ, H, ρ, ι, a, w, _, hr, s, k => by
    simp only [runOps, Option.some.injEq, Prod.mk.injEq] at hr
    obtain ⟨rfl, rfl⟩ := hr
    exact k a w ρ ι s (.refl _ _ _)
  | o :: l, ao :: al, φ, H, ρ, ι, a, w, hc, hr, s, k => by
    simp only [chkOps, chkOper, Bool.and_eq_true, beq_iff_eq] at hc
    obtain ⟨⟨⟨⟨hd, hdn⟩, hg⟩, ho⟩, hl⟩ := hc
    simp only [runOps] at hr
    split at hr
    · rename_i φ1 H1 hst
      have hdlt : ∀ n, ao.d = some n → n < nt := fun n hn => by rw [hn] at hdn; simpa [chkDst] using hdn
      simp only [stepO] at hst
      split at hst
      · rename_i hw
        split at hst <;> try cases hst
        rename_i v φ2 H2 hstep
        have hwant := wanted_ok s hg hw
        have hrun := op_sound hcall s ao.op ho hstep
        unfold wpList
        rw [if_pos hwant]
        refine .inl (hrun.wp ?_)
        rintro x w1 ⟨ρ1, ι1, s1, g1⟩
        obtain ⟨ρ2, s2, g2⟩ := s1.put ao.d hdlt
        rw [hd]
        exact ops_sound hcall l al _ _ ρ2 ι1 _ w1 hl hr s2 (fun a' w' ρ' ι' s' g' => k a' w' ρ' ι' s' ((g1.trans g2).trans g'))
      · rename_i hw
        simp only [Option.some.injEq, Prod.mk.injEq] at hst
        obtain ⟨rfl, rfl⟩ := hst
        have hwant := wanted_ok s hg hw
        have s1 : StA nt φ H ρ ι a w [.no] [Go.undef] := s.value .no
        obtain ⟨ρ2, s2, g2⟩ := s1.put ao.d hdlt
        unfold wpList
        rw [if_neg (by rw [hwant]; simp), hd]
        exact ops_sound hcall l al _ _ ρ2 ι _ w hl hr s2 (fun a' w' ρ' ι' s' g' => k a' w' ρ' ι' s' (g2.trans g'))
      · cases hst
    · cases hr
  | [], _ :: _, _, _, _, _, _, _, hc, _, _, _ => by simp [chkOps] at hc
  | _ :: _, [], _, _, _, _, _, _, hc, _, _, _ => by simp [chkOps] at hc

theorem mask_get (φ : Fr) : ∀ (ks : List Nat) (i : Nat), Fr.get (Fr.mask φ ks) i = Fr.get φ i ∨ Fr.get (Fr.mask φ ks) i = .undef
  | [], i => .inr rfl
  | k :: ks, i => by
    simp only [Fr.mask, List.map_cons, get_cons]
    split
    · rename_i h; rw [h]; exact .inl rfl
    · exact mask_get φ ks i

/-- Slots that are forgotten. -/
theorem StA.mask (s : StA nt φ H ρ ι a w [] []) (ks : List Nat) : ∃ ρ', StA nt (Fr.mask φ ks) H ρ' ι a w [] [] ∧ Goes ρ ι w ρ' ι w := by
  classical
  let ρ' : Own := fun l => match l with
    | .slot q => if Fr.get (Fr.mask φ ks) q = Fr.get φ q then ρ (.slot q) else none
    | l => ρ l
  have hsub : ∀ l p, ρ' l = some p → ρ l = some p := by
    intro l p h
    cases l with
    | slot q =>
      simp only [ρ'] at h
      split at h
      · exact h
      · cases h
    | _ => exact h
  have g : Goes ρ ι w ρ' ι w := Goes.sub ι w hsub (fun _ => rfl)
  refine ⟨ρ', ⟨s.sz, s.df, fun q => ?_, rfl, fun j v x h => by simp at h, s.an, s.mem.own (fun _ => rfl) (fun _ _ => rfl) (foot_sub hsub), s.sep.sub hsub⟩, g⟩
  simp only [ρ']
  by_cases hq : Fr.get (Fr.mask φ ks) q = Fr.get φ q
  · rw [if_pos hq, hq]; exact (s.sl q).ext g
  · rw [if_neg hq]
    rcases mask_get φ ks q with h | h
    · exact absurd h hq
    · rw [h]; exact R.RL (.undef _)

def exitOf : AExit → Exit
  | .normal => .normal
  | .exit i => .exit i
  | .ret => .ret

/-- What code promises. -/
def CodeOK (P : Program) (nt : Nat) (c : Code) (f : Fr → Heap → Option (AExit × Fr × Heap)) : Prop :=
  ∀ φ H ρ ι a w e φ' H', f φ H = some (e, φ', H') → StA nt φ H ρ ι a w [] [] → ∀ Q : Exit → Act → World → Prop, (∀ a' w' ρ' ι', StA nt φ' H' ρ' ι' a' w' [] [] → Goes ρ ι w ρ' ι' w' → Q (exitOf e) a' w') → c.wp P Q a w

theorem loop_sound {c : Code} {f : Fr → Heap → Option (AExit × Fr × Heap)} (h : CodeOK P nt c f) (keep : List Nat) (n : Nat) : CodeOK P nt (.loop c) (iter f keep n) := by
  intro φ H ρ ι a w e φ' H' hi s Q k
  refine wp_loop_rounds n ?_
  induction n generalizing φ H ρ ι a w with
  | zero => cases hi
  | succ n ih =>
    rw [rounds_succ]
    simp only [iter] at hi
    obtain ⟨ρ1, s1, g1⟩ := s.mask keep
    split at hi
    · rename_i φ1 H1 hb
      refine h _ _ _ _ _ _ _ _ _ hb s1 _ (fun a' w' ρ' ι' s' g' => ?_)
      exact ih _ _ _ _ _ _ hi s' (fun a2 w2 ρ2 ι2 s2 g2 => k a2 w2 ρ2 ι2 s2 ((g1.trans g').trans g2))
    · rename_i hne
      refine h _ _ _ _ _ _ _ _ _ hi s1 _ (fun a' w' ρ' ι' s' g' => ?_)
      have := k a' w' ρ' ι' s' (g1.trans g')
      cases e with
      | normal => exact absurd hi (hne _ _)
      | exit i => exact this
      | ret => exact this

/-- What a drawn region promises: shown in the next text. -/
def DrwOK (P : Program) (nt : Nat) (call : CallF) : Prop := ∀ n id ops al, chkDrw P nt n ops al = true → ∀ fuel, CodeOK P nt (.region id ops true) (execC call fuel (.drw n al))

theorem rd_ev {x : AX} {u : V} (h : ev φ x = u) (hu : u.strip = u) : rd φ x = u := by unfold rd; rw [h, hu]

theorem code_sound (hcall : CallOK P call) (hd : DrwOK P nt call) (fuel : Nat) : ∀ (c : Code) (ac : AC), chkC P nt c ac = true → CodeOK P nt c (execC call fuel ac) := by
  intro c
  induction c with
  | skip =>
    intro ac hc
    cases ac <;> simp only [chkC, Bool.false_eq_true] at hc
    intro φ H ρ ι a w e φ' H' h s Q k
    simp only [execC, Option.some.injEq, Prod.mk.injEq] at h
    obtain ⟨rfl, rfl, rfl⟩ := h
    exact wp_skip (k a w ρ ι s (.refl _ _ _))
  | label l =>
    intro ac hc
    cases ac <;> simp only [chkC, Bool.false_eq_true] at hc
    intro φ H ρ ι a w e φ' H' h s Q k
    simp only [execC, Option.some.injEq, Prod.mk.injEq] at h
    obtain ⟨rfl, rfl, rfl⟩ := h
    exact wp_label (k a w ρ ι s (.refl _ _ _))
  | region id ops draw =>
    intro ac hc
    cases ac <;> simp only [chkC, Bool.false_eq_true, Bool.and_eq_true, Bool.not_eq_true'] at hc
    · obtain ⟨rfl, hc⟩ := hc
      intro φ H ρ ι a w e φ' H' h s Q k
      simp only [execC] at h
      split at h <;> try cases h
      rename_i φ1 H1 hr
      exact wp_region_list (ops_sound hcall ops.toList _ _ _ ρ ι _ _ hc hr s k)
    · obtain ⟨rfl, hc⟩ := hc
      exact hd _ id ops _ hc fuel
  | seq x y ihx ihy =>
    intro ac hc
    cases ac <;> simp only [chkC, Bool.false_eq_true, Bool.and_eq_true] at hc
    intro φ H ρ ι a w e φ' H' h s Q k
    simp only [execC] at h
    split at h
    · rename_i φ1 H1 hx
      exact wp_seq (ihx _ hc.1 _ _ _ _ _ _ _ _ _ hx s _ (fun a' w' ρ' ι' s' g' => ihy _ hc.2 _ _ _ _ _ _ _ _ _ h s' _ (fun a2 w2 ρ2 ι2 s2 g2 => k a2 w2 ρ2 ι2 s2 (g'.trans g2))))
    · rename_i hne
      refine wp_seq (ihx _ hc.1 _ _ _ _ _ _ _ _ _ h s _ (fun a' w' ρ' ι' s' g' => ?_))
      have := k a' w' ρ' ι' s' g'
      cases e with
      | normal => exact absurd h (hne _ _)
      | exit i => exact this
      | ret => exact this
  | cond X x y ihx ihy =>
    intro ac hc
    cases ac <;> simp only [chkC, Bool.false_eq_true, Bool.and_eq_true] at hc
    intro φ H ρ ι a w e φ' H' h s Q k
    simp only [execC] at h
    have hR := rd_ok s hc.1.1
    split at h
    · rename_i he
      rw [rd_ev he rfl] at hR
      exact wp_cond_true hR.bool_inv (ihx _ hc.1.2 _ _ _ _ _ _ _ _ _ h s _ k)
    · rename_i he
      rw [rd_ev he rfl] at hR
      exact wp_cond_false hR.bool_inv (ihy _ hc.2 _ _ _ _ _ _ _ _ _ h s _ k)
    · cases h
  | block i b ih =>
    intro ac hc
    cases ac <;> simp only [chkC, Bool.false_eq_true, Bool.and_eq_true, beq_iff_eq] at hc
    obtain ⟨rfl, hc⟩ := hc
    intro φ H ρ ι a w e φ' H' h s Q k
    simp only [execC] at h
    split at h
    · rename_i j φ1 H1 hb
      refine wp_block (ih _ hc _ _ _ _ _ _ _ _ _ hb s _ (fun a' w' ρ' ι' s' g' => ?_))
      simp only [exitOf, Exit.inBlock]
      split at h
      · cases h
        rw [if_pos ‹_›]
        exact k a' w' ρ' ι' s' g'
      · cases h
        rw [if_neg ‹_›]
        exact k a' w' ρ' ι' s' g'
    · rename_i hne
      refine wp_block (ih _ hc _ _ _ _ _ _ _ _ _ h s _ (fun a' w' ρ' ι' s' g' => ?_))
      have := k a' w' ρ' ι' s' g'
      cases e with
      | normal => exact this
      | exit i => exact absurd h (hne _ _ _)
      | ret => exact this
  | loop b ih =>
    intro ac hc
    cases ac <;> simp only [chkC, Bool.false_eq_true] at hc
    exact loop_sound (ih _ hc) _ _
  | exit i =>
    intro ac hc
    cases ac <;> simp only [chkC, Bool.false_eq_true, beq_iff_eq] at hc
    subst hc
    intro φ H ρ ι a w e φ' H' h s Q k
    simp only [execC, Option.some.injEq, Prod.mk.injEq] at h
    obtain ⟨rfl, rfl, rfl⟩ := h
    exact wp_exit (k a w ρ ι s (.refl _ _ _))
  | ret =>
    intro ac hc
    cases ac <;> simp only [chkC, Bool.false_eq_true] at hc
    intro φ H ρ ι a w e φ' H' h s Q k
    simp only [execC, Option.some.injEq, Prod.mk.injEq] at h
    obtain ⟨rfl, rfl, rfl⟩ := h
    exact wp_ret (k a w ρ ι s (.refl _ _ _))
  | rangeFunc => intro ac hc; cases ac <;> simp [chkC] at hc
  | scope => intro ac hc; cases ac <;> simp [chkC] at hc
  | goto => intro ac hc; cases ac <;> simp [chkC] at hc
  | refuse => intro ac hc; cases ac <;> simp [chkC] at hc

/-! ### Results -/

def readRes (tmps : Array Value) : ResultVar → Sem Value
  | .tmp t => pure (tmps.getD t Go.undef)
  | .cell a t => do loadVar t (← asAddr (tmps.getD a Go.undef))

theorem results_eq (fn : Func) (tmps : Array Value) : results fn tmps = (do let vs ← fn.results.mapM (readRes tmps); pure (if h : vs.size = 1 then vs[0] else .tuple vs)) := by
  unfold results
  congr 1

theorem resOne_ok (s : StA nt φ H ρ ι a w [] []) {q : ResultVar} {r : ARes} (hc : chkRes P [q] [r] = true) {v : V} (h : resOne φ H r = some v) :
    ∃ x s', (readRes a.tmps q).run P w = .ok x w ∧ RL w (foot ρ) ι v x (s' : Option (Nat × Nat)) ∧
      (s' = none ∨ ∃ n, s' = ρ (.slot n)) := by
  cases q with
  | tmp t =>
    cases r with
    | t n =>
      simp only [chkRes, Bool.and_eq_true, beq_iff_eq] at hc
      obtain ⟨rfl, _⟩ := hc
      simp only [resOne, Option.some.injEq] at h
      subst h
      exact ⟨_, _, rfl, s.sl t, .inr ⟨t, rfl⟩⟩
    | cell n agg => simp [chkRes] at hc
  | cell p t =>
    cases r with
    | t n => simp [chkRes] at hc
    | cell n agg =>
      simp only [chkRes, Bool.and_eq_true, beq_iff_eq] at hc
      obtain ⟨⟨rfl, ht⟩, _⟩ := hc
      simp only [resOne] at h
      have hR := s.sl p
      have h2 : AM.load H agg ((Fr.get φ p).strip) = some v := by
        rcases own_or (Fr.get φ p) with ⟨k, r, he⟩ | hne
        · rw [he] at h; simp [AM.load] at h
        · rw [strip_other hne]; exact h
      obtain ⟨b, base, off, cs, e, hr, hl⟩ := look_ok s.mem hR.R h2
      obtain ⟨y, hy, hRy⟩ := run_loadVar (P := P) hr ht hl
      exact ⟨y, none, by simp only [readRes]; rw [e]; simp [asAddr, hy], hRy.RL, .inl rfl⟩

theorem resMany_ok (s : StA nt φ H ρ ι a w [] []) : ∀ {qs : List ResultVar} {rs : List ARes}, chkRes P qs rs = true → ∀ {vs : List V}, resMany φ H rs = some vs →
    ∃ xs : List Value, (qs.mapM (readRes a.tmps)).run P w = .ok xs w ∧ xs.length = vs.length ∧ ∀ (j : Nat) (v : V) (x : Value), vs[j]? = some v → xs[j]? = some x → R w (foot ρ) ι v x
  | [], [], _, vs, h => by
    simp only [resMany, Option.some.injEq] at h
    subst h
    exact ⟨[], by simp, rfl, by simp⟩
  | q :: qs, r :: rs, hc, vs, h => by
    have hc1 : chkRes P [q] [r] = true ∧ chkRes P qs rs = true := by
      cases q <;> cases r <;> simp only [chkRes, Bool.and_eq_true, Bool.false_eq_true, and_true] at hc ⊢ <;> exact hc
    simp only [resMany] at h
    split at h <;> try cases h
    rename_i v1 vs1 h1 h2
    obtain ⟨x, tl, hx, hRL, _⟩ := resOne_ok s hc1.1 h1
    obtain ⟨xs, hxs, hl, hR⟩ := resMany_ok s hc1.2 h2
    refine ⟨x :: xs, ?_, by simp [hl], fun j v y hv hy => ?_⟩
    · simp only [List.mapM_cons, Sem.run_bind, hx, Result.andThen, hxs]
      rfl
    · cases j with
      | zero => simp at hv hy; subst hv; subst hy; exact hRL.R
      | succ j => simp at hv hy; exact hR j v y hv hy
  | [], _ :: _, hc, _, _ => by simp [chkRes] at hc
  | _ :: _, [], hc, _, _ => by simp [chkRes] at hc

theorem result_ok (s : StA nt φ H ρ ι a w [] []) {fn : Func} {rs : List ARes} (hc : chkRes P fn.results.toList rs = true) {v : V} (h : result φ H rs = some v) :
    ∃ x tl, (results fn a.tmps).run P w = .ok x w ∧ RL w (foot ρ) ι v x (tl : Option (Nat × Nat)) ∧ (tl = none ∨ ∃ n, tl = ρ (.slot n)) := by
  have many : ∀ vs, resMany φ H rs = some vs → rs.length ≠ 1 → ∃ x tl, (results fn a.tmps).run P w = .ok x w ∧ RL w (foot ρ) ι (.tup vs) x (tl : Option (Nat × Nat)) ∧ (tl = none ∨ ∃ n, tl = ρ (.slot n)) := by
    intro vs hv hl
    obtain ⟨xs, hxs, hlen, hR⟩ := resMany_ok s hc hv
    have hlr : ∀ {rs : List ARes} {vs : List V}, resMany φ H rs = some vs → vs.length = rs.length := by
      intro rs
      induction rs with
      | nil => intro vs h; simp only [resMany, Option.some.injEq] at h; subst h; rfl
      | cons r rs ih =>
        intro vs h
        simp only [resMany] at h
        split at h <;> try cases h
        rename_i h1 h2
        simp [ih h2]
    have h1 := hlr hv
    refine ⟨.tuple xs.toArray, none, ?_, R.RL (.tup vs _ (by simpa using hlen) (fun j v x hv hx => hR j v x hv (by simpa using hx))), .inl rfl⟩
    have : ¬ xs.toArray.size = 1 := by simp; omega
    rw [results_eq]
    simp only [Sem.run_bind, Array.mapM_eq_mapM_toList, Sem.run_map, hxs, Result.andThen]
    rw [dif_neg this]
    rfl
  match rs, h with
  | [r], h =>
    simp only [result] at h
    have hq : ∃ q, fn.results.toList = [q] := by
      rcases hf : fn.results.toList with _ | ⟨q, _ | ⟨q2, l⟩⟩
      · rw [hf] at hc; simp [chkRes] at hc
      · exact ⟨q, rfl⟩
      · rw [hf] at hc; cases q <;> cases r <;> simp [chkRes] at hc
    obtain ⟨q, hq⟩ := hq
    rw [hq] at hc
    obtain ⟨x, tl, hx, hRL, ht⟩ := resOne_ok s hc h
    refine ⟨x, tl, ?_, hRL, ht⟩
    have hr := arr_one hq
    rw [results_eq, hr]
    simp [Array.mapM_eq_mapM_toList, hx]
  | [], h =>
    simp only [result, Option.map_eq_some_iff] at h
    obtain ⟨vs, hv, rfl⟩ := h
    exact many vs hv (by simp)
  | r :: r2 :: rs, h =>
    simp only [result, Option.map_eq_some_iff] at h
    obtain ⟨vs, hv, rfl⟩ := h
    exact many vs hv (by simp)

/-! ### Functions -/

theorem R.take {F : Nat → Nat → Prop} {x : Value} (n : Nat) (h : R w F ι v x) (hu : v.under n = true) : R w F (ι.take n) v x := by
  induction h with
  | pr h => exact .pr h
  | undef x => exact .undef x
  | no => exact .no
  | ptr i off b base h =>
    simp only [V.under, decide_eq_true_eq] at hu
    exact .ptr i off b base (by rw [List.getElem?_take_of_lt hu]; exact h)
  | rp row off b base vals hc hr => exact .rp row off b base vals hc hr
  | ms i off len cap b base cap' ad h h1 h2 ha hn =>
    simp only [V.under, decide_eq_true_eq] at hu
    exact .ms i off len cap b base cap' ad (by rw [List.getElem?_take_of_lt hu]; exact h) h1 h2 ha hn
  | agg cs xs hs h ih =>
    simp only [V.under] at hu
    exact .agg cs xs hs (fun j v x hv hx => ih j v x hv hx (underAll_iff.1 hu j v hv))
  | tup cs xs hs h ih =>
    simp only [V.under] at hu
    exact .tup cs xs hs (fun j v x hv hx => ih j v x hv hx (underAll_iff.1 hu j v hv))
  | fn f l m xs ys hs ht h h' ih ih' =>
    simp only [V.under, Bool.and_eq_true] at hu
    exact .fn f l m xs ys hs ht (fun j v x hv hx => ih j v x hv hx (underAll_iff.1 hu.1 j v hv)) (fun j v x hv hx => ih' j v x hv hx (underAll_iff.1 hu.2 j v hv))

theorem RL.take {F : Nat → Nat → Prop} {x : Value} {tl : Option (Nat × Nat)} (n : Nat) (h : RL w F ι v x tl) (hu : v.under n = true) : RL w F (ι.take n) v x tl := by
  rcases own_or v with ⟨k, r, rfl⟩ | hv
  · exact h
  · rw [RL_other hv] at *; exact ⟨R.take n h.1 hu, h.2⟩

/-- The owners that a function hands back: its memory's, up to a length, and its result's. -/
def Own.ret (ρ : Own) (n : Nat) (tl : Option (Nat × Nat)) : Own
  | .blk i => if i < n then ρ (.blk i) else none
  | .cell i j => if i < n then ρ (.cell i j) else none
  | .slot s => if s = 0 then tl else none
  | .arg _ => none
  | .fr k => ρ (.fr k)

theorem ret_up {ρ : Own} {n : Nat} {tl : Option (Nat × Nat)} (m : Nat) (ht : tl = none ∨ tl = ρ (.slot m)) : ∀ k p, ρ.ret n tl k = some p → ρ (match k with | .slot _ => .slot m | k => k) = some p := by
  intro k p h
  cases k with
  | blk i =>
    simp only [Own.ret] at h
    split at h
    · exact h
    · cases h
  | cell i j =>
    simp only [Own.ret] at h
    split at h
    · exact h
    · cases h
  | slot s =>
    simp only [Own.ret] at h
    split at h
    · rcases ht with rfl | rfl
      · cases h
      · exact h
    · cases h
  | arg j => cases h
  | fr k => exact h

theorem ret_sep {ρ : Own} {n : Nat} {tl : Option (Nat × Nat)} (m : Nat) (ht : tl = none ∨ tl = ρ (.slot m)) (s : Sep ρ w) : Sep (ρ.ret n tl) w := by
  refine s.rename _ (ret_up m ht) (fun k k' p p' h h' e => ?_)
  cases k <;> cases k' <;> simp at e <;> first
    | (obtain ⟨rfl, rfl⟩ := e; rfl)
    | (subst e; rfl)
    | (cases h; done)
    | (rename_i s1 s2; simp only [Own.ret] at h h'; by_cases h1 : s1 = 0 <;> by_cases h2 : s2 = 0 <;> simp [h1, h2] at h h' ⊢)

theorem Mem.take (m : Mem H ι ρ w) (n : Nat) (tl : Option (Nat × Nat)) (hf : ∀ b o, foot (ρ.ret n tl) b o → foot ρ b o) : Mem (H.take n) (ι.take n) (ρ.ret n tl) w := by
  refine ⟨by simp [m.len], fun i vs hi => ?_, fun i hi => ?_, fun i vs j hi hj => ?_⟩
  · have hin : i < n := by have := get_some hi; simp at this; omega
    rw [List.getElem?_take_of_lt hin] at hi
    obtain ⟨b, base, c, t, fr, h1, h2, h3, h4, h5, h6⟩ := m.blk i vs hi
    refine ⟨b, base, c, t, fr, by rw [List.getElem?_take_of_lt hin]; exact h1, by simp only [Own.ret]; rw [if_pos hin]; exact h2, h3, h4, h5, fun j v hj => ?_⟩
    obtain ⟨x, hx, hr, hu⟩ := h6 j v hj
    refine ⟨x, hx, ?_, hu⟩
    simp only [Own.ret]; rw [if_pos hin]
    exact (RL.take n hr (under_mono (by omega) v hu)).anti hf
  · by_cases hin : i < n
    · have := m.dead i (fun vs hv => hi vs (by rw [List.getElem?_take_of_lt hin]; exact hv))
      simp only [Own.ret, hin, if_true]; exact this
    · simp only [Own.ret, hin, if_false]; exact ⟨trivial, fun _ => trivial⟩
  · have hin : i < n := by have := get_some hi; simp at this; omega
    rw [List.getElem?_take_of_lt hin] at hi
    simp only [Own.ret, hin, if_true]
    exact m.past i vs j hi hj

theorem params_get : ∀ (vs : List V) (i s : Nat), Fr.get (params i vs) s = if i ≤ s ∧ s < i + vs.length then vs.getD (s - i) .undef else .undef
  | [], i, s => by simp [params, Fr.get]
  | v :: vs, i, s => by
    simp only [params, get_cons, List.length_cons]
    by_cases h : s = i
    · subst h; simp
    · rw [if_neg h, params_get vs (i + 1) s]
      by_cases h2 : i + 1 ≤ s ∧ s < i + 1 + vs.length
      · rw [if_pos h2, if_pos (by omega), show s - i = (s - (i + 1)) + 1 by omega]
        simp
      · rw [if_neg h2, if_neg (by omega)]

theorem run_sound {tbl : Tbl} {ext : Ext} (htbl : ∀ k af, tbl k = some af → ∃ fn, P.funcs[k]? = some fn ∧ chkF P fn af = true)
    (hext : ∀ k e, ext k = some e → ∀ args H r H', e args H = some (r, H') → RealCall P k args H r H') (hdrw : ∀ nt call, CallOK P call → DrwOK P nt call) : ∀ n, CallOK P (run tbl ext n)
  | 0 => fun f args H r H' h => by cases h
  | n + 1 => by
    have ih := run_sound htbl hext hdrw n
    intro f args H r H' h
    simp only [run] at h
    split at h
    · exact hext _ _ ‹_› _ _ _ _ h
    · split at h <;> try cases h
      rename_i af haf
      obtain ⟨fn, hfn, hchk⟩ := htbl _ _ haf
      simp only [chkF, Bool.and_eq_true, bne_iff_ne, ne_eq, decide_eq_true_eq] at hchk
      obtain ⟨⟨⟨hname, hnp⟩, hres⟩, hbody⟩ := hchk
      split at hbody <;> try cases hbody
      rename_i c hb
      split at h <;> try cases h
      rename_i hlen
      refine ⟨by unfold callable; rw [hfn]; simp [hname, hb], fun w ρ ι xs hm hs hxl hargs hslots harg => ?_⟩
      have fin : ∀ e φ' H1, execC (run tbl ext n) n af.body (params 0 args) H = some (e, φ', H1) → (e = .ret ∨ e = .normal) → (∃ r1, result φ' H1 af.res = some r1 ∧ trunc H.length r1 H1 = (r, H')) →
          Calls P f xs w fun e w' => ∃ x ρ' ι', e = .returned x ∧ Mem H' ι' ρ' w' ∧ Sep ρ' w' ∧ RL w' (foot ρ') ι' r x (ρ' (.slot 0)) ∧ (∀ s, s ≠ 0 → ρ' (.slot s) = none) ∧ (∀ j, ρ' (.arg j) = none) ∧ Goes ρ ι w ρ' ι' w' := by
        rintro e φ' H1 hx he ⟨r1, hr1, htr⟩
        refine calls_of_wp hfn hb ?_
        have hnp2 : xs.size ≤ fn.ntmps := by omega
        have s0 : StA fn.ntmps (params 0 args) H ρ ι { tmps := xs ++ Array.replicate (fn.ntmps - xs.size) Go.undef, defers := [] } w [] [] := by
          refine ⟨by simp; omega, rfl, fun q => ?_, rfl, fun j v x h => by simp at h, fun j _ => harg j, hm, hs⟩
          rw [params_get]
          by_cases hq : q < args.length
          · rw [if_pos (by omega)]
            have h1 : args[q]? = some args[q] := by simp
            have hql : q < xs.size := by omega
            have h2 : xs[q]? = some xs[q] := by simp
            have h3 : (xs ++ Array.replicate (fn.ntmps - xs.size) Go.undef).getD q Go.undef = xs[q] := by
              rw [Array.getD_eq_getD_getElem?, Array.getElem?_append_left hql, h2]; rfl
            rw [h3]
            have := hargs q _ _ h1 h2
            simpa [List.getD, h1] using this
          · rw [if_neg (by omega), hslots q (by omega)]
            exact R.RL (.undef _)
        refine code_sound ih (hdrw _ _ ih) n c af.body hbody _ _ _ _ _ _ _ _ _ hx s0 _ (fun a' w' ρ' ι' s' g' => ?_)
        obtain ⟨x, tl, hrun, hRL, htl⟩ := result_ok s' hres hr1
        have hpost : ∃ x ρ2 ι2, Ending.returned x = .returned x ∧ (results fn a'.tmps).run P w' = .ok x w' ∧ Mem H' ι2 ρ2 w' ∧ Sep ρ2 w' ∧ RL w' (foot ρ2) ι2 r x (ρ2 (.slot 0)) ∧ (∀ s, s ≠ 0 → ρ2 (.slot s) = none) ∧ (∀ j, ρ2 (.arg j) = none) ∧ Goes ρ ι w ρ2 ι2 w' := by
          obtain ⟨m, ht2⟩ : ∃ m, tl = none ∨ tl = ρ' (.slot m) := by
            rcases htl with h | ⟨m, h⟩
            · exact ⟨0, .inl h⟩
            · exact ⟨m, .inr h⟩
          have hio : ι.length ≤ ι'.length := by
            rcases Nat.lt_or_ge ι'.length ι.length with h1 | h1
            · have := g'.io ι'.length ι[ι'.length] (by simp)
              have := get_some this; omega
            · exact h1
          have hml := hm.len
          have hml' := s'.mem.len
          have key : ∀ q, q ≤ H1.length → H.length ≤ q → (q < H1.length → r1.under q = true) → ∃ x ρ2 ι2, Ending.returned x = .returned x ∧ (results fn a'.tmps).run P w' = .ok x w' ∧ Mem (H1.take q) ι2 ρ2 w' ∧ Sep ρ2 w' ∧ RL w' (foot ρ2) ι2 r1 x (ρ2 (.slot 0)) ∧ (∀ s, s ≠ 0 → ρ2 (.slot s) = none) ∧ (∀ j, ρ2 (.arg j) = none) ∧ Goes ρ ι w ρ2 ι2 w' := by
            intro q hq1 hq2 hq3
            have hfs : ∀ b o, foot (ρ'.ret q tl) b o → foot ρ' b o := fun b o h => foot_rename _ (ret_up m ht2) b o h
            have hru : r1.under q = true := by
              by_cases h1 : q < H1.length
              · exact hq3 h1
              · have := hRL.under
                rw [show q = ι'.length by omega]; exact this
            refine ⟨x, ρ'.ret q tl, ι'.take q, rfl, hrun, s'.mem.take q tl hfs, ret_sep m ht2 s'.sep, ?_, fun s hs0 => by simp [Own.ret, hs0], fun _ => rfl, ⟨g'.kp, fun i p hi => ?_, fun k b o h => ?_, g'.fr⟩⟩
            · simp only [Own.ret, if_true]
              exact (RL.take q hRL hru).anti hfs
            · rw [List.getElem?_take_of_lt (by have := get_some hi; omega)]; exact g'.io i p hi
            · exact g'.fp _ b o (ret_up m ht2 k _ h)
          unfold trunc at htr
          split at htr
          · rename_i hu
            simp only [Prod.mk.injEq] at htr
            obtain ⟨rfl, rfl⟩ := htr
            exact key H.length (by omega) (Nat.le_refl _) (fun _ => hu)
          · simp only [Prod.mk.injEq] at htr
            obtain ⟨rfl, rfl⟩ := htr
            have := key H1.length (Nat.le_refl _) (by omega) (fun h => by omega)
            rwa [List.take_length] at this
        obtain ⟨x2, ρ2, ι2, _, q1, q2, q3, q4, q5, q6, q7⟩ := hpost
        rcases he with rfl | rfl
        · exact ⟨s'.df, x2, q1, x2, ρ2, ι2, rfl, q2, q3, q4, q5, q6, q7⟩
        · exact ⟨s'.df, x2, q1, x2, ρ2, ι2, rfl, q2, q3, q4, q5, q6, q7⟩
      split at h
      · rename_i φ' H1 hx
        split at h <;> try cases h
        rename_i r1 hr1
        exact fin _ _ _ hx (.inl rfl) ⟨r1, hr1, by simpa using h⟩
      · rename_i φ' H1 hx
        split at h <;> try cases h
        rename_i r1 hr1
        exact fin _ _ _ hx (.inr rfl) ⟨r1, hr1, by simpa using h⟩
      · cases h

/-- A law: over no memory of ours, plain arguments; it answers true. -/
theorem law_calls {tbl : Tbl} {ext : Ext} (htbl : ∀ k af, tbl k = some af → ∃ fn, P.funcs[k]? = some fn ∧ chkF P fn af = true)
    (hext : ∀ k e, ext k = some e → ∀ args H r H', e args H = some (r, H') → RealCall P k args H r H') (hdrw : ∀ nt call, CallOK P call → DrwOK P nt call) {f n : Nat} {args : List V} {r : V} {H' : Heap}
    (h : run tbl ext n f args [] = some (r, H')) (w : World) (xs : Array Value) (hl : xs.size = args.length) (hx : ∀ (j : Nat) (v : V) (x : Value), args[j]? = some v → xs[j]? = some x → PR w (fun _ _ => False) v x) :
    Calls P f xs w fun e w' => ∃ x, e = .returned x ∧ (∀ b, r = .bool b → x = .bool b) ∧ Go.RowKit.Below w.heap.size w w' := by
  have hfalse : foot (fun _ => none) = fun _ _ => False := by
    funext b o
    exact propext ⟨fun ⟨_, _, h, _⟩ => (by cases h), fun h => h.elim⟩
  refine ((run_sound htbl hext hdrw n _ _ _ _ _ h).2 w (fun _ => none) [] xs ⟨rfl, fun i vs h => by simp at h, fun _ _ => ⟨rfl, fun _ => rfl⟩, fun _ _ _ _ _ => rfl⟩ ⟨fun _ _ _ _ _ h => (by cases h), fun _ _ _ h => (by cases h)⟩ hl (fun j v x hv hy => ?_) (fun _ _ => rfl) (fun _ => rfl)).mono ?_
  · rw [hfalse]; exact R.RL (.pr (hx j v x hv hy))
  · rintro e w' ⟨x, ρ', ι', rfl, _, _, hR, _, _, g⟩
    refine ⟨x, rfl, fun b hb => ?_, ⟨g.kp.os, g.kp.tape, g.kp.output, g.kp.size, fun k hk => ?_⟩⟩
    · subst hb; exact ((RL_other (by simp)).1 hR).1.bool_inv
    · have := g.kp.obj k hk
      unfold ObjKp at this
      split at this
      · rename_i c t fr he
        obtain ⟨c', h1, h2, h3⟩ := this
        rw [h1, he]
        congr 2
        apply Array.ext h2
        intro i hi1 hi2
        have := h3 i (by rw [hfalse]; exact fun h => h)
        rw [Array.getElem?_eq_getElem hi1, Array.getElem?_eq_getElem hi2] at this
        exact Option.some.inj this
      · exact this

end
end Go.AM
