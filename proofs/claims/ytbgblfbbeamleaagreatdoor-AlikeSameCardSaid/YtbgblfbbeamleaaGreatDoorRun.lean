/-
  Regions in the text's order, code, functions: whatever the abstract run gives, the model's call gives.
-/
import Derived.Lib.Space
import Derived.Test.YtbgblfbbeamleaaGreatDoorRfn
import Derived.StillTail
import Derived.Scope
set_option linter.unusedVariables false
set_option linter.unusedSimpArgs false
namespace Go.AM

def chkGuard (ops : Array Oper) : Option (Nat × Bool) → Option (Nat × Bool) → Bool
  | none, none => true
  | some (j, want), some (s, want') => want == want' && ((ops[j]?).bind (·.dst) == some s)
  | _, _ => false

def chkDst (nt : Nat) : Option Nat → Bool
  | none => true
  | some d => decide (d < nt)

def chkOper (P : Program) (W : Bool) (nt : Nat) (ops : Array Oper) (o : Oper) (ao : AOper) : Bool :=
  o.dst == ao.d && chkDst nt ao.d && chkGuard ops o.guard ao.g && (W || !ao.op.wide) && chkOp P o.op ao.op

def chkOps (P : Program) (W : Bool) (nt : Nat) (ops : Array Oper) : List Oper → List AOper → Bool
  | [], [] => true
  | o :: l, ao :: al => chkOper P W nt ops o ao && chkOps P W nt ops l al
  | _, _ => false

/-- Does j wait for i: itself, or as the certificate says. -/
def waitB (ops : Array Oper) (cert : List (List Nat)) (j i : Nat) : Bool :=
  ((ops[j]?).map fun o => o.after.toList.any fun e => Region.binds .any e && e.on == i).getD false || (cert.getD j []).contains i

/-- The certificate: each of its entries follows by one edge from those ahead. -/
def certB (ops : Array Oper) (cert : List (List Nat)) : Bool :=
  (List.range ops.size).all fun j => (cert.getD j []).all fun i => ((ops[j]?).map fun o => o.after.toList.any fun e => Region.binds .any e && decide (e.on < j) && waitB ops cert e.on i).getD false

def afterB (ops : Array Oper) : Bool := (List.range ops.size).all fun i => ((ops[i]?).map fun o => o.after.toList.all fun e => !Region.binds .any e || decide (e.on < i)).getD true

/-- The end of a region: the row's place, its fill, the list's store. -/
def tail3 (ops : Array Oper) (al : List AOper) (m : Nat) : Bool :=
  decide (ops.size = m + 3) && (match al[m]?, al[m + 1]?, al[m + 2]? with
    | some ⟨some d, none, .ixa _ none (.t s) _⟩, some ⟨none, none, .st _ (.t d') _⟩, some ⟨none, none, .stf p (.t s')⟩ => d == d' && s == s' && d != s && !p.slots.contains d
    | _, _, _ => false) && ((ops[m + 1]?).map fun o => o.after.toList.any fun e => Region.binds .any e && e.on == m).getD false

/-- Of the first m operations those that are not independent keep their order; the others wait for all of these. -/
def depM (ops : Array Oper) (cert : List (List Nat)) (al : List AOper) (m : Nat) : Bool :=
  (List.range ops.size).all fun j => (List.range j).all fun i => decide (m ≤ i) || (decide (j < m) && (al.getD i default).indep (al.getD j default)) || waitB ops cert j i

def chkDrw (P : Program) (W : Bool) (nt : Nat) (ops : Array Oper) (cert : List (List Nat)) (al : List AOper) : Bool :=
  P.follows .mixedOrders && chkOps P W nt ops ops.toList al && afterB ops && certB ops cert && (depM ops cert al ops.size || (decide (3 ≤ ops.size) && tail3 ops al (ops.size - 3) && depM ops cert al (ops.size - 3)))

def nodupB : List Nat → Bool
  | [] => true
  | k :: ks => !ks.contains k && nodupB ks

def chkPs (nt : Nat) (ps : List Nat) (qs : List Nat) : Bool := ps == qs && nodupB qs && qs.all fun q => decide (q < nt)

def chkC (P : Program) (W : Bool) (nt : Nat) : Code → AC → Bool
  | _, .dfr .. => true
  | .skip, .skip => true
  | .label _, .skip => true
  | .scope b, c => chkC P W nt b c
  | .region _ ops draw, .reg al => !draw && chkOps P W nt ops ops.toList al
  | .region _ ops draw, .drw cert al => draw && chkDrw P W nt ops cert al
  | .seq a b, .seq c d => chkC P W nt a c && chkC P W nt b d
  | .cond X a b, .cond x c d => chkX X x && chkC P W nt a c && chkC P W nt b d
  | .block i b, .block j c => i == j && chkC P W nt b c
  | .loop b, .loop _ c => chkC P W nt b c
  | .rangeFunc G ps a b, .rfn g _ _ qs c d => !W && chkX G g && chkPs nt ps.toList qs && chkC P W nt a c && chkC P W nt b d
  | .exit i, .exit j => i == j
  | .ret, .ret => true
  | _, _ => false

/-- The labels of the loops over functions lead to their codes. -/
def LabC (tbl : Tbl) : AC → Prop
  | .seq a b => LabC tbl a ∧ LabC tbl b
  | .cond _ a b => LabC tbl a ∧ LabC tbl b
  | .block _ b => LabC tbl b
  | .loop _ b => LabC tbl b
  | .rfn _ _ lbl _ a b => tbl lbl = some ⟨0, .seq a b, []⟩ ∧ LabC tbl a ∧ LabC tbl b
  | .dfr a _ b _ _ c => LabC tbl a ∧ LabC tbl b ∧ LabC tbl c
  | _ => True

def noRfn : AC → Bool
  | .seq a b => noRfn a && noRfn b
  | .cond _ a b => noRfn a && noRfn b
  | .block _ b => noRfn b
  | .loop _ b => noRfn b
  | .rfn .. => false
  | .dfr a _ b _ _ c => noRfn a && noRfn b && noRfn c
  | _ => true

theorem LabC.none {tbl : Tbl} : ∀ {c : AC}, noRfn c = true → LabC tbl c := by
  intro c
  induction c with
  | seq a b iha ihb => intro h; simp only [noRfn, Bool.and_eq_true] at h; exact ⟨iha h.1, ihb h.2⟩
  | cond x a b iha ihb => intro h; simp only [noRfn, Bool.and_eq_true] at h; exact ⟨iha h.1, ihb h.2⟩
  | block id b ih => intro h; exact ih h
  | loop k b ih => intro h; exact ih h
  | rfn => intro h; cases h
  | dfr a x b g ks c iha ihb ihc => intro h; simp only [noRfn, Bool.and_eq_true] at h; exact ⟨iha h.1.1, ihb h.1.2, ihc h.2⟩
  | _ => intro h; trivial

def labels : AC → List (Nat × AC × AC)
  | .seq a b => labels a ++ labels b
  | .cond _ a b => labels a ++ labels b
  | .block _ b => labels b
  | .loop _ b => labels b
  | .rfn _ _ lbl _ a b => (lbl, a, b) :: (labels a ++ labels b)
  | .dfr a _ b _ _ c => labels a ++ (labels b ++ labels c)
  | _ => []

def LabL (tbl : Tbl) : List (Nat × AC × AC) → Prop
  | [] => True
  | x :: l => tbl x.1 = some ⟨0, .seq x.2.1 x.2.2, []⟩ ∧ LabL tbl l

theorem LabL.append {tbl : Tbl} : ∀ {l m : List (Nat × AC × AC)}, LabL tbl (l ++ m) → LabL tbl l ∧ LabL tbl m
  | [], _, h => ⟨trivial, h⟩
  | x :: l, m, h => by
    obtain ⟨h1, h2⟩ := h
    obtain ⟨h3, h4⟩ := LabL.append h2
    exact ⟨⟨h1, h3⟩, h4⟩

theorem LabC.of {tbl : Tbl} : ∀ {c : AC}, LabL tbl (labels c) → LabC tbl c := by
  intro c
  induction c with
  | seq a b iha ihb => intro h; obtain ⟨h1, h2⟩ := LabL.append h; exact ⟨iha h1, ihb h2⟩
  | cond x a b iha ihb => intro h; obtain ⟨h1, h2⟩ := LabL.append h; exact ⟨iha h1, ihb h2⟩
  | block id b ih => intro h; exact ih h
  | loop k b ih => intro h; exact ih h
  | rfn g k lbl ps a b iha ihb => intro h; obtain ⟨h0, h⟩ := h; obtain ⟨h1, h2⟩ := LabL.append h; exact ⟨h0, iha h1, ihb h2⟩
  | dfr a x b g ks c iha ihb ihc => intro h; obtain ⟨h1, h2⟩ := LabL.append h; obtain ⟨h3, h4⟩ := LabL.append h2; exact ⟨iha h1, ihb h3, ihc h4⟩
  | _ => intro h; trivial

theorem LabC.list {tbl : Tbl} {c : AC} {l : List (Nat × AC × AC)} (h : labels c = l) (hl : LabL tbl l) : LabC tbl c := LabC.of (h ▸ hl)

/-- The program's variables that we lean on. -/
def globs (P : Program) : List Nat := (List.range P.globals.size).filter fun g => match P.globals[g]? with
  | some x => x.name == "internal/bytealg.MaxLen" && (match P.underlying x.type with | some (.int .i64) => true | _ => false)
  | none => false

/-- The table of ASCII's blanks. -/
def spaceTab : List Value := Go.Lib.asciiSpaceTab.map (Value.int .u8)

/-- The program's tables that we lean on. -/
def tabIds (P : Program) : List Nat := (List.range P.globals.size).filter fun g => match P.globals[g]? with
  | some x => x.name == "strings.asciiSpace"
  | none => false
def tabs (P : Program) : List (Nat × List Value) := (tabIds P).map fun g => (g, spaceTab)

/-- What a label is known for. -/
def EL (P : Program) (tbl : Tbl) (lim : Option Nat) : LblP := ⟨fun lbl qs n params assign body =>
  ∃ a b, tbl lbl = some ⟨0, .seq a b, []⟩ ∧ chkPs n params.toList qs = true ∧ chkC P false n assign a = true ∧ chkC P false n body b = true ∧ LabC tbl a ∧ LabC tbl b, globs P, tabs P, lim⟩

def chkRes (P : Program) : List ResultVar → List ARes → Bool
  | [], [] => true
  | .tmp t :: rs, .t n :: qs => t == n && chkRes P rs qs
  | .cell a t :: rs, .cell n agg :: qs => a == n && aggIs P t agg && chkRes P rs qs
  | _, _ => false

def chkKs : List Operand → List Nat → Bool
  | [], [] => true
  | .tmp k :: l, j :: m => k == j && chkKs l m
  | _, _ => false

/-- A region whose last operation defers a call. -/
def chkLast (P : Program) (nt : Nat) (ops : Array Oper) (al : List AOper) (g : Nat) (ks : List Nat) : Bool :=
  match ops.toList.reverse with
  | o :: l => chkOps P false nt ops l.reverse al && o.dst.isNone && o.guard.isNone && (match o.op with
    | .defer ⟨.value (.func f), args, _⟩ => f == g && chkKs args.toList ks
    | _ => false)
  | [] => false

def chkYs : List AX → List Nat → Bool
  | [], [] => true
  | .t k :: l, j :: m => k == j && chkYs l m
  | _, _ => false

/-- A region whose last operation defers a closure that the one before made. -/
def chkLastF (P : Program) (nt : Nat) (ops : Array Oper) (al : List AOper) (g : Nat) (ks : List Nat) : Bool :=
  match ops.toList.reverse, al.reverse with
  | o :: l, q :: _ => chkOps P false nt ops l.reverse al && o.dst.isNone && o.guard.isNone && (match o.op, q with
    | .defer ⟨.value (.tmp t), args, _⟩, ⟨some t', none, .mkf (.func g') [] ys⟩ => args.isEmpty && t == t' && g == g' && chkYs ys ks && !ks.contains t
    | _, _ => false)
  | _, _ => false

def chkB (P : Program) (nt : Nat) : Code → AC → Bool
  | .seq C0 (.seq (.seq C1 (.cond X (.seq C2 (.region _ ops draw)) .skip)) C3), .dfr (.seq a0 a1) x (.seq o2 (.reg al)) g ks a3 =>
    !draw && chkC P false nt C0 a0 && chkC P false nt C1 a1 && chkX X x && chkC P false nt C2 o2 && chkLast P nt ops al g ks && decide (g < yBase) && chkC P false nt C3 a3
  | .seq C0 (.seq C1 (.seq (.region _ ops draw) C3)), .dfr (.seq a0 a1) (.c (.bool true)) (.seq .skip (.reg al)) g ks a3 =>
    !draw && chkC P false nt C0 a0 && chkC P false nt C1 a1 && chkLastF P nt ops al g ks && decide (g < yBase) && chkC P false nt C3 a3
  | _, .dfr .. => false
  | c, a => chkC P false nt c a

def chkF (P : Program) (fn : Func) (af : AFunc) : Bool :=
  fn.name != "runtime.NumGoroutine" && decide (af.np ≤ fn.ntmps) && chkRes P fn.results.toList af.res && (match fn.body with | some c => chkB P fn.ntmps c af.body | none => false)

/-- The wide form of a function, without a deferred call or loops over functions. -/
def chkW (P : Program) (fn : Func) (af : AFunc) : Bool :=
  fn.name != "runtime.NumGoroutine" && decide (af.np ≤ fn.ntmps) && chkRes P fn.results.toList af.res && (match fn.body with | some c => chkC P true fn.ntmps c af.body | none => false)

section
variable {P : Program} {E : LblP} {nt : Cx} {φ φ' : Fr} {H H' : Heap} {ρ : Own} {ι : Places} {a : Act} {w : World} {o : Oper} {call : CallF} {v : V}

theorem wanted_ok (s : StA E nt φ H ρ ι a w [] []) {ops : Array Oper} {g : Option (Nat × Bool)} (hg : chkGuard ops o.guard g = true) {b : Bool} (h : wantedA φ g = some b) : Region.wanted o (yielded ops a.tmps) = b := by
  unfold chkGuard at hg
  split at hg
  · rename_i e
    simp [wantedA] at h
    simp [Region.wanted, e, h]
  · rename_i j want s' want' e
    simp only [Bool.and_eq_true, beq_iff_eq] at hg
    obtain ⟨rfl, hd⟩ := hg
    simp only [wantedA] at h
    have hR := (s.sl s').R
    split at h
    · rename_i x hx
      simp only [Option.some.injEq] at h
      subst h
      rw [hx] at hR
      have e2 := hR.bool_inv
      have hlt : s' < a.tmps.size := by
        rcases Nat.lt_or_ge s' a.tmps.size with h1 | h1
        · exact h1
        · simp [Array.getD, Nat.not_lt.2 h1, Go.undef] at e2
      have e3 : a.tmps[s']? = some (.bool x) := by
        simp [Array.getD, hlt] at e2
        simp [hlt, e2]
      simp [Region.wanted, e, yielded, hd, e3]
    · rename_i hx
      simp only [Option.some.injEq] at h
      subst h
      rw [hx] at hR
      have e2 := hR.no_inv
      have : yielded ops a.tmps j = none := by
        unfold yielded
        rw [hd]
        simp only [Option.bind_some]
        rcases Nat.lt_or_ge s' a.tmps.size with h1 | h1
        · simp [Array.getD, h1] at e2
          simp [h1, e2, Go.undef]
        · simp [Array.getElem?_eq_none h1]
      simp [Region.wanted, e, this]
    · cases h
  · cases hg

theorem wide_or {w : Bool} {op : AOp} (h : (w || !op.wide) = true) : w = true ∨ op.wide = false := by
  cases w
  · exact .inr (by simpa using h)
  · exact .inl rfl

theorem ops_sound_on (hcall : CallOK E P call) {ops : Array Oper} {Q : Exit → Act → World → Prop} (m : List Oper) : ∀ (l : List Oper) (al : List AOper) (φ : Fr) (H : Heap) (ρ : Own) (ι : Places) (a : Act) (w : World), chkOps P nt.w nt.n ops l al = true → runOps call al φ H = some (φ', H') →
    StA E nt φ H ρ ι a w [] [] → (∀ a' w' ρ' ι', StA E nt φ' H' ρ' ι' a' w' [] [] → Goes ρ ι w ρ' ι' w' → wpListIn (wideR nt.rd) 0 P ops Q m a' w') → wpListIn (wideR nt.rd) 0 P ops Q (l ++ m) a w
  | [], [], φ, H, ρ, ι, a, w, _, hr, s, k => by
    simp only [runOps, Option.some.injEq, Prod.mk.injEq] at hr
    obtain ⟨rfl, rfl⟩ := hr
    exact k a w ρ ι s (.refl _ _ _)
  | o :: l, ao :: al, φ, H, ρ, ι, a, w, hc, hr, s, k => by
    simp only [chkOps, chkOper, Bool.and_eq_true, beq_iff_eq] at hc
    obtain ⟨⟨⟨⟨⟨hd, hdn⟩, hg⟩, hW⟩, ho⟩, hl⟩ := hc
    simp only [runOps] at hr
    split at hr
    · rename_i φ1 H1 hst
      have hdlt : ∀ n, ao.d = some n → n < nt.n := fun n hn => by rw [hn] at hdn; simpa [chkDst] using hdn
      simp only [stepO] at hst
      split at hst
      · rename_i hw
        split at hst <;> try cases hst
        rename_i v φ2 H2 hstep
        have hwant := wanted_ok s hg hw
        have hrun := op_sound hcall s ao.op (wide_or hW) ho hstep
        rw [List.cons_append]
        unfold wpListIn
        rw [if_pos hwant]
        refine hrun.wp nt.rd ?_
        rintro x w1 ⟨ρ1, ι1, s1, g1⟩
        obtain ⟨ρ2, s2, g2⟩ := s1.put ao.d hdlt
        rw [hd]
        exact ops_sound_on hcall m l al _ _ ρ2 ι1 _ w1 hl hr s2 (fun a' w' ρ' ι' s' g' => k a' w' ρ' ι' s' ((g1.trans g2).trans g'))
      · rename_i hw
        simp only [Option.some.injEq, Prod.mk.injEq] at hst
        obtain ⟨rfl, rfl⟩ := hst
        have hwant := wanted_ok s hg hw
        have s1 : StA E nt φ H ρ ι a w [.no] [Go.undef] := s.value .no
        obtain ⟨ρ2, s2, g2⟩ := s1.put ao.d hdlt
        rw [List.cons_append]
        unfold wpListIn
        rw [if_neg (by rw [hwant]; simp), hd]
        refine ⟨fun _ _ => trivial, ?_⟩
        exact ops_sound_on hcall m l al _ _ ρ2 ι _ w hl hr s2 (fun a' w' ρ' ι' s' g' => k a' w' ρ' ι' s' (g2.trans g'))
      · cases hst
    · cases hr
  | [], _ :: _, _, _, _, _, _, _, hc, _, _, _ => by simp [chkOps] at hc
  | _ :: _, [], _, _, _, _, _, _, hc, _, _, _ => by simp [chkOps] at hc

theorem ops_sound (hcall : CallOK E P call) {ops : Array Oper} {Q : Exit → Act → World → Prop} (l : List Oper) (al : List AOper) (φ : Fr) (H : Heap) (ρ : Own) (ι : Places) (a : Act) (w : World) (hc : chkOps P nt.w nt.n ops l al = true) (hr : runOps call al φ H = some (φ', H'))
    (s : StA E nt φ H ρ ι a w [] []) (k : ∀ a' w' ρ' ι', StA E nt φ' H' ρ' ι' a' w' [] [] → Goes ρ ι w ρ' ι' w' → Q .normal a' w') : wpListIn (wideR nt.rd) 0 P ops Q l a w := by
  have := ops_sound_on hcall (ops := ops) (Q := Q) [] l al φ H ρ ι a w hc hr s k
  rwa [List.append_nil] at this

theorem mask_get (φ : Fr) : ∀ (ks : List Nat) (i : Nat), Fr.get (Fr.mask φ ks) i = Fr.get φ i ∨ Fr.get (Fr.mask φ ks) i = .undef
  | [], i => .inr rfl
  | k :: ks, i => by
    simp only [Fr.mask, List.map_cons, get_cons]
    split
    · rename_i h; rw [h]; exact .inl rfl
    · exact mask_get φ ks i

/-- Slots that are forgotten. -/
theorem StA.mask (s : StA E nt φ H ρ ι a w [] []) (ks : List Nat) : ∃ ρ', StA E nt (Fr.mask φ ks) H ρ' ι a w [] [] ∧ Goes ρ ι w ρ' ι w := by
  classical
  let ρ' : Own := fun l => match l with
    | .slot q => if Fr.get (Fr.mask φ ks) q = Fr.get φ q then ρ (.slot q) else none
    | l => ρ l
  have hsub : ∀ l p, ρ' l = some p → ρ l = some p := by
    intro l p h
    cases l with
    | slot q =>
      simp only [ρ'] at h
      split at h
      · exact h
      · cases h
    | _ => exact h
  have g : Goes ρ ι w ρ' ι w := Goes.sub ι w hsub (fun _ => rfl)
  refine ⟨ρ', ⟨s.sz, s.df, fun q => ?_, rfl, fun j v x h => by simp at h, s.an, s.mem.own (fun _ => rfl) (fun _ _ => rfl) (foot_sub hsub), s.sep.sub hsub, s.wd⟩, g⟩
  simp only [ρ']
  by_cases hq : Fr.get (Fr.mask φ ks) q = Fr.get φ q
  · rw [if_pos hq, hq]; exact (s.sl q).ext g (by simp only [ρ']; rw [if_pos hq])
  · rw [if_neg hq]
    rcases mask_get φ ks q with h | h
    · exact absurd h hq
    · rw [h]; exact R.RL (.undef _)

def exitOf : AExit → Exit
  | .normal => .normal
  | .exit i => .exit i
  | .ret => .ret

/-- What code promises. -/
def CodeOK (E : LblP) (P : Program) (nt : Cx) (c : Code) (f : Fr → Heap → Option (AExit × Fr × Heap)) : Prop :=
  ∀ φ H ρ ι a w e φ' H', f φ H = some (e, φ', H') → StA E nt φ H ρ ι a w [] [] → ∀ Q : Exit → Act → World → Prop, (∀ a' w' ρ' ι', StA E nt φ' H' ρ' ι' a' w' [] [] → Goes ρ ι w ρ' ι' w' → Q (exitOf e) a' w') → c.wpIn (wideR nt.rd) 0 P Q a w

theorem loop_sound {c : Code} {f : Fr → Heap → Option (AExit × Fr × Heap)} (h : CodeOK E P nt c f) (keep : List Nat) (n : Nat) : CodeOK E P nt (.loop c) (iter f keep n) := by
  intro φ H ρ ι a w e φ' H' hi s Q k
  refine wpIn_loop_rounds n ?_
  induction n generalizing φ H ρ ι a w with
  | zero => cases hi
  | succ n ih =>
    rw [roundsIn_succ]
    simp only [iter] at hi
    obtain ⟨ρ1, s1, g1⟩ := s.mask keep
    split at hi
    · rename_i φ1 H1 hb
      refine h _ _ _ _ _ _ _ _ _ hb s1 _ (fun a' w' ρ' ι' s' g' => ?_)
      exact ih _ _ _ _ _ _ hi s' (fun a2 w2 ρ2 ι2 s2 g2 => k a2 w2 ρ2 ι2 s2 ((g1.trans g').trans g2))
    · rename_i hne
      refine h _ _ _ _ _ _ _ _ _ hi s1 _ (fun a' w' ρ' ι' s' g' => ?_)
      have := k a' w' ρ' ι' s' (g1.trans g')
      cases e with
      | normal => exact absurd hi (hne _ _)
      | exit i => exact this
      | ret => exact this

/-- What a drawn region promises: shown in the next text. -/
def DrwOK (E : LblP) (P : Program) (nt : Cx) (call : CallF) : Prop := ∀ id ops cert al, chkDrw P nt.w nt.n ops cert al = true → ∀ fuel, CodeOK E P nt (.region id ops true) (execC call fuel (.drw cert al))

theorem rd_ev {x : AX} {u : V} (h : ev φ x = u) (hu : u.strip = u) : rd φ x = u := by unfold rd; rw [h, hu]

/-- A loop over a function. -/
theorem rfn_sound (hcall : CallOK E P call) (hw : nt.w = false) (fuel : Nat) {G : Operand} {g : AX} {ps : Array Tmp} {keep qs : List Nat} {lbl : Nat} {x y : AC} {assign body : Code} (hG : chkX G g = true) (hE : E.lb lbl qs nt.n ps assign body) :
    CodeOK E P nt (.rangeFunc G ps assign body) (execC call fuel (.rfn g keep lbl qs x y)) := by
  intro φ H ρ ι a w e φ' H' hx s Q k
  simp only [execC, runRfn] at hx
  have hR := rd_ok s hG
  split at hx <;> try cases hx
  rename_i f first cap hf
  obtain ⟨e0, hfy⟩ := fnParts0_inv hf
  rw [e0] at hR
  obtain ⟨fs, cs, eF, q1, q2, q3, q4⟩ := hR.fn_inv
  split at hx <;> try cases hx
  rename_i v H1 hcl
  unfold endRfn at hx
  split at hx <;> try cases hx
  rename_i st pend q hrec
  split at hx <;> try cases hx
  rename_i hst
  have hc := hcall.plain hcl (wideNo_lt hfy)
  have hlim : ∃ N, E.lim = some N ∧ N ≤ H.length := by
    have := s.wd
    rw [hw] at this
    cases hN : E.lim with
    | none => rw [hN] at this; cases this
    | some N => exact ⟨N, rfl, s.mem.lim N hN⟩
  refine wpIn_rangeFunc (fun fn _ => ?_)
  obtain ⟨l, mk, w1, r, hen, hl, hobj, r1, r2, r3, r4, r5, r6, kp, hdf⟩ := enter_lay s.df fn ps assign body
  obtain ⟨ρ1, s1, g1⟩ := s.lay kp hl hobj r1 r2 r3 (lbl := lbl) (qs := qs) (by rw [r3, r4, r5, r6, s.sz]; exact hE) keep hdf
  have hC := (s1.call (P := P) hc q1 q2 (fun j v y h h' => (q3 j v y h h').ext g1) (fun j v y h h' => (q4 j v y h h').ext g1)).calls hfy
  have hres : (resolve a.eval (rangeCall G l) 0).run P w1 = .ok { target := .fn (.func f) cs, args := fs ++ #[.func (.yield l) #[] #[]] } w1 := by
    simp only [resolve, rangeCall, eF, Deferred.ofValue]
    simp [go_sem]
  refine ⟨l, mk, w1, _, w1, f, fs ++ #[.func (.yield l) #[] #[]] ++ cs, w1, hen, hres, fun _ _ => trivial, ?_, fun h => by simp [wideR, Fence.wide] at h, calls_wideR.2 ?_⟩
  · have := callable_ok (w := w1) (hc.1 _ (fnNo_lt hfy)) (fs ++ #[.func (.yield l) #[] #[]] ++ cs)
    simp only [invoke]; exact this
  · refine hC.mono ?_
    rintro e w2 ⟨x2, rfl, ρ2, ι2, s2, g2⟩
    obtain ⟨lbl2, ps2, ks2, us2⟩ := q
    have hi2 := recAt_some hrec
    have hl2 : ι2[H.length]? = some (.lp l) := g2.io _ _ (by rw [← s.mem.len]; simp)
    obtain ⟨r', hR2⟩ := (s2.mem.rcd _ _ l hi2 hl2).lrec
    have hnb : r'.state ≠ .busy := by
      intro h
      have := hR2.st
      rw [h] at this
      exact hst this.symm
    obtain ⟨s3, g3⟩ := s2.putRec (st' := 3) (p' := pend) (state := .exhausted) (pending := r'.pending) hi2 hl2 hR2.obj rfl hR2.pend
    have hlen := s.mem.len
    have s4 := s3.cut H.length (.inl hlim) (fun q => by have := (s.sl q).under; rwa [hlen] at this)
    have htk : (H1.set H.length (some [.lrec 3 pend lbl2 ps2 ks2 us2])).take H.length = H1.take H.length := by
      rw [List.take_set_of_le (Nat.le_refl _)]
    rw [htk] at s4
    have g4 := ((g1.trans g2).trans g3).take (ρ' := ρ2.cut H.length) H.length (by omega) (fun k p hm h => ⟨k, hm, cut_up _ _ k p h⟩) (fun _ => rfl)
    have hk := k _ _ _ _ s4 g4
    have key : ∀ (A : Act) (W : World), Q (exitOf (exitN pend)) A W → (match r'.pending with
        | none => Q .normal A W
        | some c => c.wpIn (wideR nt.rd) 0 P Q A W) := by
      rw [hR2.pend]
      intro A W hq
      match pend, hq with
      | 0, hq => exact hq
      | 1, hq => exact wpIn_ret hq
      | n + 2, hq => exact wpIn_exit hq
    exact ⟨r'.pending, _, run_endLoop hR2.obj hnb, key _ _ hk⟩

theorem wpIn_scope {F : Fence} {n : Nat} {P : Program} {Q : Exit → Act → World → Prop} {a : Act} {w : World} {c : Code} (h : c.wpIn F n P (Exit.noGoto Q) a w) : (Code.scope c).wpIn F n P Q a w := by
  intro b k cs hro hb hr
  have h0 : (lone (b.atR a (.code (.scope c) :: k)) cs w).fenced P F := fenced_calm hb hr rfl
  have st1 : step P (lone (b.atR a (.code (.scope c) :: k)) cs w) = .next (lone (b.atR a (.code c :: .inScope c :: k)) cs w) := step_lone_go (by simp [stepG, stepG.exec, Frame.atR])
  have st2 : ∀ a₁ w₁, step P (lone (b.atR a₁ (.inScope c :: k)) cs w₁) = .next (lone (b.atR a₁ k) cs w₁) := fun a₁ w₁ => step_lone_go (by simp [stepG, stepG.exec, Frame.atR])
  obtain ⟨e, a₁, w₁, hq, harr⟩ := h b (.inScope c :: k) cs hro hb hr
  cases e with
  | normal => exact ⟨.normal, a₁, w₁, hq, .head h0 st1 (StepsIn.trans harr (.one (fenced_calm hb hr rfl) (st2 _ _)))⟩
  | exit id' =>
    have hx : exitTo id' (.inScope c :: k) = exitTo id' k := by simp [exitTo]
    exact ⟨.exit id', a₁, w₁, hq, fun k' hk => .head h0 st1 (harr.1 k' (by rw [hx]; exact hk)),
      fun hr' hk => let ⟨k₁, h1, h2⟩ := harr.2 hr' (by rw [hx]; exact hk); ⟨k₁, h1, .head h0 st1 h2⟩⟩
  | goto l => exact hq.elim
  | ret => exact ⟨_, a₁, w₁, hq, .of_steps (.one h0 st1) harr⟩
  | panic ch => exact ⟨_, a₁, w₁, hq, .of_steps (.one h0 st1) harr⟩
  | outgrown => exact ⟨_, a₁, w₁, hq, .of_steps (.one h0 st1) harr⟩

/-- Where the evaluator answers nothing (a deferred call that is not at a function's top stands for code that is not run). -/
theorem stuck_ok {E : LblP} {c : Code} {fuel : Nat} {a : AC} {x : AX} {o : AC} {g : Nat} {ks : List Nat} {r : AC} : CodeOK E P nt c (execC call fuel (.dfr a x o g ks r)) := by
  intro φ H ρ ι a w e φ' H' h
  simp [execC] at h

theorem code_sound {tbl : Tbl} {lim : Option Nat} (hcall : CallOK (EL P tbl lim) P call) (hd : DrwOK (EL P tbl lim) P nt call) (fuel : Nat) : ∀ (c : Code) (ac : AC), chkC P nt.w nt.n c ac = true → LabC tbl ac → CodeOK (EL P tbl lim) P nt c (execC call fuel ac) := by
  intro c
  induction c with
  | skip =>
    intro ac hc hL
    cases ac <;> (try exact stuck_ok) <;> simp only [chkC, Bool.false_eq_true] at hc
    intro φ H ρ ι a w e φ' H' h s Q k
    simp only [execC, Option.some.injEq, Prod.mk.injEq] at h
    obtain ⟨rfl, rfl, rfl⟩ := h
    exact wpIn_skip (k a w ρ ι s (.refl _ _ _))
  | label l =>
    intro ac hc hL
    cases ac <;> (try exact stuck_ok) <;> simp only [chkC, Bool.false_eq_true] at hc
    intro φ H ρ ι a w e φ' H' h s Q k
    simp only [execC, Option.some.injEq, Prod.mk.injEq] at h
    obtain ⟨rfl, rfl, rfl⟩ := h
    exact wpIn_label (k a w ρ ι s (.refl _ _ _))
  | region id ops draw =>
    intro ac hc hL
    cases ac <;> (try exact stuck_ok) <;> simp only [chkC, Bool.false_eq_true, Bool.and_eq_true, Bool.not_eq_true'] at hc
    · obtain ⟨rfl, hc⟩ := hc
      intro φ H ρ ι a w e φ' H' h s Q k
      simp only [execC] at h
      split at h <;> try cases h
      rename_i φ1 H1 hr
      exact wpIn_region_list (ops_sound hcall ops.toList _ _ _ ρ ι _ _ hc hr s k)
    · obtain ⟨rfl, hc⟩ := hc
      exact hd id ops _ _ hc fuel
  | seq x y ihx ihy =>
    intro ac hc hL
    cases ac <;> (try exact stuck_ok) <;> simp only [chkC, Bool.false_eq_true, Bool.and_eq_true] at hc
    intro φ H ρ ι a w e φ' H' h s Q k
    simp only [execC] at h
    split at h
    · rename_i φ1 H1 hx
      exact wpIn_seq (ihx _ hc.1 hL.1 _ _ _ _ _ _ _ _ _ hx s _ (fun a' w' ρ' ι' s' g' => ihy _ hc.2 hL.2 _ _ _ _ _ _ _ _ _ h s' _ (fun a2 w2 ρ2 ι2 s2 g2 => k a2 w2 ρ2 ι2 s2 (g'.trans g2))))
    · rename_i hne
      refine wpIn_seq (ihx _ hc.1 hL.1 _ _ _ _ _ _ _ _ _ h s _ (fun a' w' ρ' ι' s' g' => ?_))
      have := k a' w' ρ' ι' s' g'
      cases e with
      | normal => exact absurd h (hne _ _)
      | exit i => exact this
      | ret => exact this
  | cond X x y ihx ihy =>
    intro ac hc hL
    cases ac <;> (try exact stuck_ok) <;> simp only [chkC, Bool.false_eq_true, Bool.and_eq_true] at hc
    intro φ H ρ ι a w e φ' H' h s Q k
    simp only [execC] at h
    have hR := rd_ok s hc.1.1
    split at h
    · rename_i he
      rw [rd_ev he rfl] at hR
      exact wpIn_cond_true hR.bool_inv (ihx _ hc.1.2 hL.1 _ _ _ _ _ _ _ _ _ h s _ k)
    · rename_i he
      rw [rd_ev he rfl] at hR
      exact wpIn_cond_false hR.bool_inv (ihy _ hc.2 hL.2 _ _ _ _ _ _ _ _ _ h s _ k)
    · cases h
  | block i b ih =>
    intro ac hc hL
    cases ac <;> (try exact stuck_ok) <;> simp only [chkC, Bool.false_eq_true, Bool.and_eq_true, beq_iff_eq] at hc
    obtain ⟨rfl, hc⟩ := hc
    intro φ H ρ ι a w e φ' H' h s Q k
    simp only [execC] at h
    split at h
    · rename_i j φ1 H1 hb
      refine wpIn_block (ih _ hc hL _ _ _ _ _ _ _ _ _ hb s _ (fun a' w' ρ' ι' s' g' => ?_))
      simp only [exitOf, Exit.inBlock]
      split at h
      · cases h
        rw [if_pos ‹_›]
        exact k a' w' ρ' ι' s' g'
      · cases h
        rw [if_neg ‹_›]
        exact k a' w' ρ' ι' s' g'
    · rename_i hne
      refine wpIn_block (ih _ hc hL _ _ _ _ _ _ _ _ _ h s _ (fun a' w' ρ' ι' s' g' => ?_))
      have := k a' w' ρ' ι' s' g'
      cases e with
      | normal => exact this
      | exit i => exact absurd h (hne _ _ _)
      | ret => exact this
  | loop b ih =>
    intro ac hc hL
    cases ac <;> (try exact stuck_ok) <;> simp only [chkC, Bool.false_eq_true] at hc
    exact loop_sound (ih _ hc hL) _ _
  | exit i =>
    intro ac hc hL
    cases ac <;> (try exact stuck_ok) <;> simp only [chkC, Bool.false_eq_true, beq_iff_eq] at hc
    subst hc
    intro φ H ρ ι a w e φ' H' h s Q k
    simp only [execC, Option.some.injEq, Prod.mk.injEq] at h
    obtain ⟨rfl, rfl, rfl⟩ := h
    exact wpIn_exit (k a w ρ ι s (.refl _ _ _))
  | ret =>
    intro ac hc hL
    cases ac <;> (try exact stuck_ok) <;> simp only [chkC, Bool.false_eq_true] at hc
    intro φ H ρ ι a w e φ' H' h s Q k
    simp only [execC, Option.some.injEq, Prod.mk.injEq] at h
    obtain ⟨rfl, rfl, rfl⟩ := h
    exact wpIn_ret (k a w ρ ι s (.refl _ _ _))
  | rangeFunc G ps x y ihx ihy =>
    intro ac hc hL
    cases ac <;> (try exact stuck_ok) <;> simp only [chkC, Bool.false_eq_true, Bool.and_eq_true] at hc
    have hw : nt.w = false := by simpa using hc.1.1.1.1
    rw [hw] at hc
    exact rfn_sound hcall hw fuel hc.1.1.1.2 ⟨_, _, hL.1, hc.1.1.2, hc.1.2, hc.2, hL.2.1, hL.2.2⟩
  | scope b ih =>
    intro ac hc hL
    have hc' : chkC P nt.w nt.n b ac = true := by cases ac <;> first | rfl | (simp only [chkC]; done) | simpa only [chkC] using hc
    intro φ H ρ ι a w e φ' H' h s Q k
    refine wpIn_scope (ih ac hc' hL _ _ _ _ _ _ _ _ _ h s _ (fun a' w' ρ' ι' s' g' => ?_))
    have := k a' w' ρ' ι' s' g'
    cases e <;> exact this
  | goto => intro ac hc hL; cases ac <;> (try exact stuck_ok) <;> simp [chkC] at hc
  | refuse => intro ac hc hL; cases ac <;> (try exact stuck_ok) <;> simp [chkC] at hc

/-! ### Results -/

def readRes (tmps : Array Value) : ResultVar → Sem Value
  | .tmp t => pure (tmps.getD t Go.undef)
  | .cell a t => do loadVar t (← asAddr (tmps.getD a Go.undef))

theorem results_eq (fn : Func) (tmps : Array Value) : results fn tmps = (do let vs ← fn.results.mapM (readRes tmps); pure (if h : vs.size = 1 then vs[0] else .tuple vs)) := by
  unfold results
  congr 1

theorem resOne_ok (s : StA E nt φ H ρ ι a w [] []) {q : ResultVar} {r : ARes} (hc : chkRes P [q] [r] = true) {v : V} (h : resOne φ H r = some v) :
    ∃ x s', (readRes a.tmps q).run P w = .ok x w ∧ RL w (foot ρ) ι v x (s' : Option (Nat × Nat)) ∧
      (s' = none ∨ ∃ n, s' = ρ (.slot n)) := by
  cases q with
  | tmp t =>
    cases r with
    | t n =>
      simp only [chkRes, Bool.and_eq_true, beq_iff_eq] at hc
      obtain ⟨rfl, _⟩ := hc
      simp only [resOne, Option.some.injEq] at h
      subst h
      exact ⟨_, _, rfl, s.sl t, .inr ⟨t, rfl⟩⟩
    | cell n agg => simp [chkRes] at hc
  | cell p t =>
    cases r with
    | t n => simp [chkRes] at hc
    | cell n agg =>
      simp only [chkRes, Bool.and_eq_true, beq_iff_eq] at hc
      obtain ⟨⟨rfl, ht⟩, _⟩ := hc
      simp only [resOne] at h
      have hR := s.sl p
      have h2 : AM.load H agg ((Fr.get φ p).strip) = some v := by
        rcases own_or (Fr.get φ p) with ⟨k, r, he⟩ | hne
        · rw [he] at h; simp [AM.load] at h
        · rcases nils_or (Fr.get φ p) with ⟨k, he⟩ | hnn
          · rw [he] at h; simp [AM.load] at h
          · rw [strip_other hne hnn]; exact h
      obtain ⟨b, base, off, cs, e, hr, hl⟩ := look_ok s.mem hR.R h2
      obtain ⟨y, hy, hRy⟩ := run_loadVar (P := P) hr ht hl
      exact ⟨y, none, by simp only [readRes]; rw [e]; simp [asAddr, hy], hRy.RL, .inl rfl⟩

theorem resMany_ok (s : StA E nt φ H ρ ι a w [] []) : ∀ {qs : List ResultVar} {rs : List ARes}, chkRes P qs rs = true → ∀ {vs : List V}, resMany φ H rs = some vs →
    ∃ xs : List Value, (qs.mapM (readRes a.tmps)).run P w = .ok xs w ∧ xs.length = vs.length ∧ ∀ (j : Nat) (v : V) (x : Value), vs[j]? = some v → xs[j]? = some x → R w (foot ρ) ι v x
  | [], [], _, vs, h => by
    simp only [resMany, Option.some.injEq] at h
    subst h
    exact ⟨[], by simp, rfl, by simp⟩
  | q :: qs, r :: rs, hc, vs, h => by
    have hc1 : chkRes P [q] [r] = true ∧ chkRes P qs rs = true := by
      cases q <;> cases r <;> simp only [chkRes, Bool.and_eq_true, Bool.false_eq_true, and_true] at hc ⊢ <;> exact hc
    simp only [resMany] at h
    split at h <;> try cases h
    rename_i v1 vs1 h1 h2
    obtain ⟨x, tl, hx, hRL, _⟩ := resOne_ok s hc1.1 h1
    obtain ⟨xs, hxs, hl, hR⟩ := resMany_ok s hc1.2 h2
    refine ⟨x :: xs, ?_, by simp [hl], fun j v y hv hy => ?_⟩
    · simp only [List.mapM_cons, Sem.run_bind, hx, Result.andThen, hxs]
      rfl
    · cases j with
      | zero => simp at hv hy; subst hv; subst hy; exact hRL.R
      | succ j => simp at hv hy; exact hR j v y hv hy
  | [], _ :: _, hc, _, _ => by simp [chkRes] at hc
  | _ :: _, [], hc, _, _ => by simp [chkRes] at hc

theorem result_ok (s : StA E nt φ H ρ ι a w [] []) {fn : Func} {rs : List ARes} (hc : chkRes P fn.results.toList rs = true) {v : V} (h : result φ H rs = some v) :
    ∃ x tl, (results fn a.tmps).run P w = .ok x w ∧ RL w (foot ρ) ι v x (tl : Option (Nat × Nat)) ∧ (tl = none ∨ ∃ n, tl = ρ (.slot n)) := by
  have many : ∀ vs, resMany φ H rs = some vs → rs.length ≠ 1 → ∃ x tl, (results fn a.tmps).run P w = .ok x w ∧ RL w (foot ρ) ι (.tup vs) x (tl : Option (Nat × Nat)) ∧ (tl = none ∨ ∃ n, tl = ρ (.slot n)) := by
    intro vs hv hl
    obtain ⟨xs, hxs, hlen, hR⟩ := resMany_ok s hc hv
    have hlr : ∀ {rs : List ARes} {vs : List V}, resMany φ H rs = some vs → vs.length = rs.length := by
      intro rs
      induction rs with
      | nil => intro vs h; simp only [resMany, Option.some.injEq] at h; subst h; rfl
      | cons r rs ih =>
        intro vs h
        simp only [resMany] at h
        split at h <;> try cases h
        rename_i h1 h2
        simp [ih h2]
    have h1 := hlr hv
    refine ⟨.tuple xs.toArray, none, ?_, R.RL (.tup vs _ (by simpa using hlen) (fun j v x hv hx => hR j v x hv (by simpa using hx))), .inl rfl⟩
    have : ¬ xs.toArray.size = 1 := by simp; omega
    rw [results_eq]
    simp only [Sem.run_bind, Array.mapM_eq_mapM_toList, Sem.run_map, hxs, Result.andThen]
    rw [dif_neg this]
    rfl
  match rs, h with
  | [r], h =>
    simp only [result] at h
    have hq : ∃ q, fn.results.toList = [q] := by
      rcases hf : fn.results.toList with _ | ⟨q, _ | ⟨q2, l⟩⟩
      · rw [hf] at hc; simp [chkRes] at hc
      · exact ⟨q, rfl⟩
      · rw [hf] at hc; cases q <;> cases r <;> simp [chkRes] at hc
    obtain ⟨q, hq⟩ := hq
    rw [hq] at hc
    obtain ⟨x, tl, hx, hRL, ht⟩ := resOne_ok s hc h
    refine ⟨x, tl, ?_, hRL, ht⟩
    have hr := arr_one hq
    rw [results_eq, hr]
    simp [Array.mapM_eq_mapM_toList, hx]
  | [], h =>
    simp only [result, Option.map_eq_some_iff] at h
    obtain ⟨vs, hv, rfl⟩ := h
    exact many vs hv (by simp)
  | r :: r2 :: rs, h =>
    simp only [result, Option.map_eq_some_iff] at h
    obtain ⟨vs, hv, rfl⟩ := h
    exact many vs hv (by simp)

/-! ### Functions -/

/-- The owners that a function hands back: its memory's, up to a length, and its result's. -/
def Own.ret (ρ : Own) (n : Nat) (tl : Option (Nat × Nat)) : Own
  | .blk i => if i < n then ρ (.blk i) else none
  | .cell i j => if i < n then ρ (.cell i j) else none
  | .slot s => if s = 0 then tl else none
  | .arg _ => none
  | .fr k => ρ (.fr k)

theorem ret_up {ρ : Own} {n : Nat} {tl : Option (Nat × Nat)} (m : Nat) (ht : tl = none ∨ tl = ρ (.slot m)) : ∀ k p, ρ.ret n tl k = some p → ρ (match k with | .slot _ => .slot m | k => k) = some p := by
  intro k p h
  cases k with
  | blk i =>
    simp only [Own.ret] at h
    split at h
    · exact h
    · cases h
  | cell i j =>
    simp only [Own.ret] at h
    split at h
    · exact h
    · cases h
  | slot s =>
    simp only [Own.ret] at h
    split at h
    · rcases ht with rfl | rfl
      · cases h
      · exact h
    · cases h
  | arg j => cases h
  | fr k => exact h

theorem ret_sep {ρ : Own} {n : Nat} {tl : Option (Nat × Nat)} (m : Nat) (ht : tl = none ∨ tl = ρ (.slot m)) (s : Sep ρ w) : Sep (ρ.ret n tl) w := by
  refine s.rename _ (ret_up m ht) (fun k k' p p' h h' e => ?_)
  cases k <;> cases k' <;> simp at e <;> first
    | (obtain ⟨rfl, rfl⟩ := e; rfl)
    | (subst e; rfl)
    | (cases h; done)
    | (rename_i s1 s2; simp only [Own.ret] at h h'; by_cases h1 : s1 = 0 <;> by_cases h2 : s2 = 0 <;> simp [h1, h2] at h h' ⊢)

theorem params_get : ∀ (vs : List V) (i s : Nat), Fr.get (params i vs) s = if i ≤ s ∧ s < i + vs.length then vs.getD (s - i) .undef else .undef
  | [], i, s => by simp [params, Fr.get]
  | v :: vs, i, s => by
    simp only [params, get_cons, List.length_cons]
    by_cases h : s = i
    · subst h; simp
    · rw [if_neg h, params_get vs (i + 1) s]
      by_cases h2 : i + 1 ≤ s ∧ s < i + 1 + vs.length
      · rw [if_pos h2, if_pos (by omega), show s - i = (s - (i + 1)) + 1 by omega]
        simp
      · rw [if_neg h2, if_neg (by omega)]

/-! ### A round -/

theorem nodupB_ok : ∀ {ks : List Nat}, nodupB ks = true → ks.Nodup
  | [], _ => List.nodup_nil
  | k :: ks, h => by
    simp only [nodupB, Bool.and_eq_true, Bool.not_eq_true'] at h
    exact List.nodup_cons.2 ⟨by simpa using h.1, nodupB_ok h.2⟩

theorem get_zip : ∀ (ps : List Nat) (args : List V) (φ : Fr) (q : Nat), ps.length = args.length → (∃ (j : Nat) (v : V), ps[j]? = some q ∧ args[j]? = some v ∧ Fr.get (ps.zip args ++ φ) q = v ∧ ps.idxOf? q = some j) ∨ (q ∉ ps ∧ Fr.get (ps.zip args ++ φ) q = Fr.get φ q ∧ ps.idxOf? q = none)
  | [], [], φ, q, _ => .inr ⟨by simp, rfl, rfl⟩
  | p :: ps, v :: args, φ, q, h => by
    simp only [List.zip_cons_cons, List.cons_append, get_cons, List.idxOf?_cons]
    by_cases hq : q = p
    · subst hq
      exact .inl ⟨0, v, rfl, rfl, by simp, by simp⟩
    · have hq' : ¬ p = q := fun h => hq h.symm
      rcases get_zip ps args φ q (by simpa using h) with ⟨j, u, h1, h2, h3, h4⟩ | ⟨h1, h2, h3⟩
      · exact .inl ⟨j + 1, u, by simpa using h1, by simpa using h2, by simp [hq, h3], by simp [hq', h4]⟩
      · exact .inr ⟨by simp [hq, h1], by simp [hq, h2], by simp [hq', h3]⟩
  | [], _ :: _, _, _, h => by simp at h
  | _ :: _, [], _, _, h => by simp at h

theorem get_zip2 : ∀ (ks : List Nat) (us : List V) (q : Nat), (∃ j : Nat, ks[j]? = some q ∧ us[j]? = some (Fr.get (ks.zip us) q)) ∨ Fr.get (ks.zip us) q = .undef
  | [], us, q => .inr (by simp [Fr.get])
  | k :: ks, [], q => .inr (by simp [Fr.get])
  | k :: ks, u :: us, q => by
    simp only [List.zip_cons_cons, get_cons]
    by_cases hq : q = k
    · subst hq; exact .inl ⟨0, rfl, by simp⟩
    · rcases get_zip2 ks us q with ⟨j, h1, h2⟩ | h
      · exact .inl ⟨j + 1, by simpa using h1, by simp [hq, h2]⟩
      · exact .inr (by simp [hq, h])

theorem fold_size : ∀ (l : List (Nat × Value)) (t : Array Value), (l.foldl (fun t (x : Nat × Value) => t.setIfInBounds x.1 x.2) t).size = t.size
  | [], t => rfl
  | x :: l, t => by simp only [List.foldl_cons]; rw [fold_size l]; simp

theorem fold_other {q : Nat} : ∀ (l : List (Nat × Value)) (t : Array Value), (∀ x ∈ l, x.1 ≠ q) → (l.foldl (fun t (x : Nat × Value) => t.setIfInBounds x.1 x.2) t).getD q Go.undef = t.getD q Go.undef
  | [], t, _ => rfl
  | x :: l, t, h => by
    simp only [List.foldl_cons]
    rw [fold_other l _ (fun y hy => h y (by simp [hy]))]
    simp only [Array.getD_eq_getD_getElem?, Array.getElem?_setIfInBounds]
    rw [if_neg (h x (by simp))]

theorem fold_at : ∀ (ps : List Nat) (xs : List Value) (t : Array Value) (j q : Nat) (x : Value), ps.Nodup → (∀ p ∈ ps, p < t.size) → ps[j]? = some q → xs[j]? = some x → ((ps.zip xs).foldl (fun t (x : Nat × Value) => t.setIfInBounds x.1 x.2) t).getD q Go.undef = x
  | [], _, _, _, _, _, _, _, h, _ => by simp at h
  | _ :: _, [], _, _, _, _, _, _, _, h => by simp at h
  | p :: ps, y :: xs, t, 0, q, x, hn, hs, h1, h2 => by
    simp only [List.getElem?_cons_zero, Option.some.injEq] at h1 h2
    subst h1; subst h2
    simp only [List.zip_cons_cons, List.foldl_cons]
    rw [fold_other]
    · have := hs p (by simp)
      simp [this]
    · rintro ⟨a, b⟩ hm e
      dsimp only at e
      subst e
      exact (List.nodup_cons.1 hn).1 (List.of_mem_zip hm).1
  | p :: ps, y :: xs, t, j + 1, q, x, hn, hs, h1, h2 => by
    simp only [List.zip_cons_cons, List.foldl_cons]
    exact fold_at ps xs _ j q x (List.nodup_cons.1 hn).2 (fun p hp => by simpa using hs p (by simp [hp])) (by simpa using h1) (by simpa using h2)

/-- The owners at a round's beginning: the parameters' slots own what the arguments owned. -/
def Own.rnd (ρ : Own) (ps : List Nat) : Own
  | .slot q => match ps.idxOf? q with
    | some j => ρ (.slot j)
    | none => none
  | k => ρ k

theorem idxOf_get {ps : List Nat} {q j : Nat} (h : ps.idxOf? q = some j) : ps[j]? = some q := by
  induction ps generalizing j with
  | nil => simp at h
  | cons p ps ih =>
    rw [List.idxOf?_cons] at h
    by_cases hq : p = q
    · subst hq; simp at h; subst h; rfl
    · simp [hq] at h
      obtain ⟨k, h1, rfl⟩ := h
      simpa using ih h1

theorem rnd_up (ρ : Own) (ps : List Nat) : ∀ k p, ρ.rnd ps k = some p → ρ (match k with | .slot q => .slot ((ps.idxOf? q).getD 0) | k => k) = some p := by
  intro k p h
  cases k with
  | slot q =>
    simp only [Own.rnd] at h
    split at h
    · rename_i j hj; simp [hj]; exact h
    · cases h
  | _ => exact h

theorem rnd_sep {ρ : Own} {ps : List Nat} (s : Sep ρ w) : Sep (ρ.rnd ps) w := by
  refine s.rename _ (rnd_up ρ ps) (fun k k' p p' h h' e => ?_)
  cases k <;> cases k' <;> simp at e <;> first
    | (obtain ⟨rfl, rfl⟩ := e; rfl)
    | (subst e; rfl)
    | skip
  rename_i q q'
  simp only [Own.rnd] at h h'
  split at h <;> try cases h
  rename_i j hj
  split at h' <;> try cases h'
  rename_i j' hj'
  simp [hj, hj'] at e
  subst e
  have h1 := idxOf_get hj
  have h2 := idxOf_get hj'
  rw [h1] at h2
  simp at h2
  rw [h2]

theorem exit_jump (e : AExit) : pendC (pendOf e) = (match e with | .normal => none | .ret => some .ret | .exit i => some (.exit i)) := by cases e <;> rfl

theorem round_sound {tbl : Tbl} {N : Nat} {call : CallF} (ih : CallOK (EL P tbl (some N)) P call) (hdrw : ∀ nt call, CallOK (EL P tbl (some N)) P call → DrwOK (EL P tbl (some N)) P nt call) {n i : Nat} {args : List V} {H : Heap} {r : V} {H' : Heap} (h : round tbl (execC call n) i args H = some (r, H')) :
    RealCall (EL P tbl (some N)) P (yNo i) args H r H' := by
  refine ⟨fun g hg => (by rw [fnNo_y] at hg; cases hg), fun w ρ ι xs hm hs hxl hargs hslots harg => ?_⟩
  unfold CallOf
  rw [fnNo_y]
  intro l hl
  rw [yNo_sub] at hl
  unfold round at h
  split at h <;> try cases h
  rename_i st p0 lbl ps ks us hrec
  split at h <;> try cases h
  rename_i hst
  obtain ⟨rfl, hlen⟩ := hst
  split at h <;> try cases h
  rename_i np a b res htbl
  split at h <;> try cases h
  rename_i φ1 H1 hexa
  have hi := recAt_some hrec
  obtain ⟨r0, hR⟩ := (hm.rcd i _ l hi hl).lrec
  obtain ⟨a', b', ht2, hps, hca, hcb, hLa, hLb⟩ := hR.lbl
  rw [htbl] at ht2
  simp only [Option.some.injEq, AFunc.mk.injEq, AC.seq.injEq] at ht2
  obtain ⟨rfl, ⟨rfl, rfl⟩, rfl⟩ := ht2
  simp only [chkPs, Bool.and_eq_true, beq_iff_eq, List.all_eq_true, decide_eq_true_eq] at hps
  obtain ⟨⟨hpe, hnd⟩, hpl⟩ := hps
  have hnd := nodupB_ok hnd
  refine ⟨r0.fn, _, r0.assign, r0.body, run_yield hR.obj (by rw [hxl, hlen, ← hpe]; simp), roundIn_of_wpIn trivial ?_⟩
  have hfold : (r0.params.zip xs).foldl (fun tmps (t, a) => tmps.setIfInBounds t a) r0.tmps = (ps.zip xs.toList).foldl (fun t (x : Nat × Value) => t.setIfInBounds x.1 x.2) r0.tmps := by
    rw [← Array.foldl_toList, Array.toList_zip, hpe]
  rw [hfold]
  have hf0 : ∀ b o, foot (ρ.rnd ps) b o → foot ρ b o := fun b o h => foot_rename _ (rnd_up ρ ps) b o h
  have s0 : StA (EL P tbl (some N)) { n := r0.tmps.size, B := 0, rd := some l } (ps.zip args ++ ks.zip us) H (ρ.rnd ps) ι { tmps := (ps.zip xs.toList).foldl (fun t (x : Nat × Value) => t.setIfInBounds x.1 x.2) r0.tmps, defers := [] } w [] [] := by
    refine ⟨fold_size _ _, ⟨rfl, r0, hR.obj⟩, fun q => ?_, rfl, fun j v x h => by simp at h, fun j _ => harg j, hm.own (fun _ => rfl) (fun _ _ => rfl) hf0, rnd_sep hs, rfl⟩
    rcases get_zip ps args (ks.zip us) q hlen.symm with ⟨j, v, h1, h2, h3, h4⟩ | ⟨h1, h2, h3⟩
    · have hjx : j < xs.size := by have := get_some h2; omega
      have hx : xs[j]? = some xs[j] := by simp
      have e1 := fold_at ps xs.toList r0.tmps j q xs[j] hnd hpl h1 (by simp)
      rw [h3]
      dsimp only
      rw [e1]
      have e2 : ρ.rnd ps (.slot q) = ρ (.slot j) := by simp only [Own.rnd, h4]
      rw [e2]
      exact (hargs j v _ h2 hx).anti hf0
    · have e1 := fold_other (q := q) (ps.zip xs.toList) r0.tmps (by
        rintro ⟨a, b⟩ hm e
        dsimp only at e
        subst e
        exact h1 (List.of_mem_zip hm).1)
      rw [h2]
      dsimp only
      rw [e1]
      have e2 : ρ.rnd ps (.slot q) = none := by simp only [Own.rnd, h3]
      rw [e2]
      rcases get_zip2 ks us q with ⟨j, h4, h5⟩ | h4
      · exact ((hR.fr j q _ h4 h5).RL).anti hf0
      · rw [h4]; exact R.RL (.undef _)
  have g0 : Goes ρ ι w (ρ.rnd ps) ι w := .of (.refl _ _) (fun _ _ h => h) (fun k b n hm h => .inr ⟨_, n, by cases k <;> first | rfl | exact hm, rnd_up ρ ps k _ h, Nat.le_refl _⟩) (fun _ => rfl) (fun b _ => .refl b w)
  refine code_sound ih (hdrw _ _ ih) n r0.assign a hca hLa _ _ _ _ _ _ _ _ _ hexa s0 _ (fun a1 w1 ρ1 ι1 s1 g1 => ?_)
  unfold bodyRound at h
  split at h <;> try cases h
  rename_i st1 p2 lbl2 ps2 ks2 us2 hrec1
  split at h <;> try cases h
  rename_i hst1
  subst hst1
  split at h <;> try cases h
  rename_i e φ2 H2 hexb
  have hi1 := recAt_some hrec1
  have hl1 := g1.io _ _ hl
  obtain ⟨r1, hR1⟩ := (s1.mem.rcd i _ l hi1 hl1).lrec
  have hready : r1.state = .ready := by
    have := hR1.st
    generalize r1.state = q at this
    cases q <;> simp [stN] at this
    rfl
  refine ⟨_, run_beginRound hR1.obj hready, ?_⟩
  obtain ⟨s2, g2⟩ := s1.putRec (st' := 1) (p' := p2) (state := .busy) (pending := r1.pending) hi1 hl1 hR1.obj rfl hR1.pend
  refine code_sound ih (hdrw _ _ ih) n r0.body b hcb hLb _ _ _ _ _ _ _ _ _ hexb s2 _ (fun a3 w3 ρ3 ι3 s3 g3 => ?_)
  unfold endRound at h
  split at h <;> try cases h
  rename_i st4 p4 lbl4 ps4 ks4 us4 hrec2
  split at h <;> try cases h
  rename_i hst4
  subst hst4
  have hi2 := recAt_some hrec2
  have hl2 := g3.io _ _ hl1
  obtain ⟨r2, hR2⟩ := (s3.mem.rcd i _ l hi2 hl2).lrec
  have key : ∀ jump : Option Code, jump = pendC (pendOf e) → ∃ v w', (Instr.endRound l jump).run P w3 = .ok v w' ∧ Left (EL P tbl (some N)) (.bool (pendOf e == 0)) ((H2.set i (some [.lrec (if pendOf e = 0 then 0 else 2) (pendOf e) lbl4 ps4 ks4 us4])).take H.length) ρ ι w (.returned v) w' := by
    intro jump hj
    have hnone : jump.isNone = (pendOf e == 0) := by rw [hj]; cases e <;> rfl
    refine ⟨_, _, run_endRound jump hR2.obj, ?_⟩
    obtain ⟨s4, g4⟩ := s3.putRec (st' := if pendOf e = 0 then 0 else 2) (p' := pendOf e) (state := if jump.isNone then .ready else .done) (pending := jump) hi2 hl2 hR2.obj (by
      rw [hnone]; cases e <;> rfl) hj
    have hfs : ∀ b o, foot (ρ3.ret H.length none) b o → foot ρ3 b o := fun b o h => foot_rename _ (ret_up 0 (.inl rfl)) b o h
    have hml := hm.len
    refine ⟨_, ρ3.ret H.length none, ι3.take H.length, rfl, s4.mem.take H.length (.inl ⟨N, rfl, hm.lim N rfl⟩) (fun _ => rfl) (fun _ _ => rfl) hfs, ret_sep 0 (.inl rfl) s4.sep, ?_, fun s hs0 => by simp [Own.ret, hs0], fun _ => rfl, ?_⟩
    · rw [hnone]
      have : ρ3.ret H.length none (.slot 0) = none := by simp [Own.ret]
      rw [this]
      exact R.RL (.pr (.bool _))
    · exact ((((g0.trans g1).trans g2).trans g3).trans g4).take H.length (by omega) (fun k p hm h => ⟨_, by cases k <;> first | rfl | exact hm, ret_up 0 (.inl rfl) k p h⟩) (fun _ => rfl)
  cases e with
  | normal => exact key none rfl
  | ret => exact key (some .ret) rfl
  | exit id => exact key (some (.exit id)) rfl

/-! ### All calls -/

/-- A body's end. -/
theorem end_ok {n : Nat} {ρ0 : Own} {ι0 : Places} {w0 : World} {H0 H1 : Heap} {φ' : Fr} {ρ' : Own} {ι' : Places} {a' : Act} {w' : World} (s' : StA E { n, B := w0.heap.size, rd := none } φ' H1 ρ' ι' a' w' [] []) (g' : Goes ρ0 ι0 w0 ρ' ι' w') (hm : Mem E H0 ι0 ρ0 w0)
    {fn : Func} {res : List ARes} (hres : chkRes P fn.results.toList res = true) {r1 r : V} {H' : Heap} (hr1 : result φ' H1 res = some r1) (htr : trunc H0.length r1 H1 = (r, H')) : EndM (P := P) w0.heap.size fn (Left E r H' ρ0 ι0 w0) a' w' := by
  have hdf := s'.df
  unfold Df at hdf
  dsimp only at hdf
  obtain ⟨hB, Ds, Es, hds, hnd, hD⟩ := hdf
  refine ⟨Ds ++ Es, by simp [hds], hnd, hD, fun w2 hsh => ?_⟩
  have s2 := s'.shut rfl hB hsh
  have g2 := g'.shut hsh
  obtain ⟨x, tl, hrun, hRL, htl⟩ := result_ok s2 hres hr1
  refine ⟨x, hrun, ?_⟩
  obtain ⟨m, ht2⟩ : ∃ m, tl = none ∨ tl = ρ' (.slot m) := by
    rcases htl with h | ⟨m, h⟩
    · exact ⟨0, .inl h⟩
    · exact ⟨m, .inr h⟩
  have hio : ι0.length ≤ ι'.length := by
    rcases Nat.lt_or_ge ι'.length ι0.length with h1 | h1
    · have := g'.io ι'.length ι0[ι'.length] (by simp)
      have := get_some this; omega
    · exact h1
  have hml := hm.len
  have hml' := s'.mem.len
  obtain ⟨N, hN, hN0⟩ : ∃ N, E.lim = some N ∧ N ≤ H0.length := by
    have := s'.wd
    cases hN : E.lim with
    | none => rw [hN] at this; cases this
    | some N => exact ⟨N, rfl, hm.lim N hN⟩
  have key : ∀ q, q ≤ H1.length → H0.length ≤ q → (q < H1.length → r1.under q = true) → Left E r1 (H1.take q) ρ0 ι0 w0 (.returned x) w2 := by
    intro q hq1 hq2 hq3
    have hfs : ∀ b o, foot (ρ'.ret q tl) b o → foot ρ' b o := fun b o h => foot_rename _ (ret_up m ht2) b o h
    have hru : r1.under q = true := by
      by_cases h1 : q < H1.length
      · exact hq3 h1
      · have := hRL.under
        rw [show q = ι'.length by omega]; exact this
    refine ⟨x, ρ'.ret q tl, ι'.take q, rfl, s2.mem.take q (.inl ⟨N, hN, by omega⟩) (fun _ => rfl) (fun _ _ => rfl) hfs, ret_sep m ht2 s2.sep, ?_, fun s hs0 => by simp [Own.ret, hs0], fun _ => rfl, g2.take q (by omega) (fun k p hm h => ⟨_, by cases k <;> first | rfl | exact hm, ret_up m ht2 k p h⟩) (fun _ => rfl)⟩
    simp only [Own.ret, if_true]
    exact (RL.take q hRL hru).anti hfs
  unfold trunc at htr
  split at htr
  · rename_i hu
    simp only [Prod.mk.injEq] at htr
    obtain ⟨rfl, rfl⟩ := htr
    exact key H0.length (by omega) (Nat.le_refl _) (fun _ => hu)
  · simp only [Prod.mk.injEq] at htr
    obtain ⟨rfl, rfl⟩ := htr
    have := key H1.length (Nat.le_refl _) (by omega) (fun h => by omega)
    rwa [List.take_length] at this

/-- A body's beginning. -/
theorem start_ok {n : Nat} {args : List V} {xs : Array Value} (hm : Mem E H ι ρ w) (hs : Sep ρ w) (hxl : xs.size = args.length) (hargs : ∀ (j : Nat) (v : V) (x : Value), args[j]? = some v → xs[j]? = some x → RL w (foot ρ) ι v x (ρ (.slot j))) (hslots : ∀ j, args.length ≤ j → ρ (.slot j) = none) (harg : ∀ j, ρ (.arg j) = none)
    (hnp : args.length ≤ n) {wf : Bool} (hwf : wf = E.lim.isNone) : StA E { n := n, B := w.heap.size, rd := none, w := wf } (params 0 args) H ρ ι { tmps := xs ++ Array.replicate (n - xs.size) Go.undef, defers := [] } w [] [] := by
  refine ⟨by simp; omega, ⟨Nat.le_refl _, [], [], rfl, List.nodup_nil, by simp⟩, fun q => ?_, rfl, fun j v x h => by simp at h, fun j _ => harg j, hm, hs, hwf⟩
  rw [params_get]
  by_cases hq : q < args.length
  · rw [if_pos (by omega)]
    have h1 : args[q]? = some args[q] := by simp
    have hql : q < xs.size := by omega
    have h2 : xs[q]? = some xs[q] := by simp
    have h3 : (xs ++ Array.replicate (n - xs.size) Go.undef).getD q Go.undef = xs[q] := by
      rw [Array.getD_eq_getD_getElem?, Array.getElem?_append_left hql, h2]; rfl
    rw [h3]
    have := hargs q _ _ h1 h2
    simpa [List.getD, h1] using this
  · rw [if_neg (by omega), hslots q (by omega)]
    exact R.RL (.undef _)

theorem chkB_plain {nt : Nat} {c : Code} {b : AC} (h : b.plain = true) : chkB P nt c b = chkC P false nt c b := by
  unfold chkB
  split
  · cases h
  · cases h
  · cases h
  · rfl

theorem fnEnd_some {res : List ARes} {n : Nat} {y : AExit × Fr × Heap} {r : V} {H' : Heap} (h : fnEnd res n y = some (r, H')) : (exitOf y.1 = .normal ∨ exitOf y.1 = .ret) ∧ ∃ r1, result y.2.1 y.2.2 res = some r1 ∧ trunc n r1 y.2.2 = (r, H') := by
  obtain ⟨e, φ, H⟩ := y
  cases e with
  | exit i => cases h
  | ret => simp only [fnEnd, Option.map_eq_some_iff] at h; exact ⟨.inr rfl, h⟩
  | normal => simp only [fnEnd, Option.map_eq_some_iff] at h; exact ⟨.inl rfl, h⟩

/-- A function without a deferred call. -/
theorem fnOne_sound {tbl : Tbl} {N : Nat} (htbl : ∀ k af, tbl k = some af → k < yBase → (∃ fn, P.funcs[k]? = some fn ∧ chkF P fn af = true) ∧ LabC tbl af.body)
    {call : CallF} (ih : CallOK (EL P tbl (some N)) P call) (hdrw : ∀ nt call, CallOK (EL P tbl (some N)) P call → DrwOK (EL P tbl (some N)) P nt call)
    {n f : Nat} (hfy : f < yBase) {args : List V} {H : Heap} {r : V} {H' : Heap} (h : fnOne tbl (execC call n) f args H = some (r, H')) : ∃ fn c, P.funcs[f]? = some fn ∧ fn.body = some c ∧ fn.name ≠ "runtime.NumGoroutine" ∧
      ∀ (w : World) (ρ : Own) (ι : Places) (xs : Array Value), Mem (EL P tbl (some N)) H ι ρ w → Sep ρ w → xs.size = args.length →
      (∀ (j : Nat) (v : V) (x : Value), args[j]? = some v → xs[j]? = some x → RL w (foot ρ) ι v x (ρ (.slot j))) → (∀ j, args.length ≤ j → ρ (.slot j) = none) → (∀ j, ρ (.arg j) = none) →
      ∀ Q : Exit → Act → World → Prop, (∀ e a w', (e = .normal ∨ e = .ret) → EndM (P := P) w.heap.size fn (Left (EL P tbl (some N)) r H' ρ ι w) a w' → Q e a w') →
        c.wpIn (wideR none) 0 P Q { tmps := xs ++ Array.replicate (fn.ntmps - xs.size) Go.undef, defers := [] } w := by
  unfold fnOne at h
  split at h <;> try cases h
  rename_i af haf
  split at h <;> try cases h
  rename_i hlen
  obtain ⟨⟨fn, hfn, hchk⟩, hLab⟩ := htbl _ _ haf hfy
  simp only [chkF, Bool.and_eq_true, bne_iff_ne, ne_eq, decide_eq_true_eq] at hchk
  obtain ⟨⟨⟨hname, hnp⟩, hres⟩, hbody⟩ := hchk
  split at hbody <;> try cases hbody
  rename_i c hb
  rw [Option.bind_eq_some_iff] at h
  obtain ⟨⟨e, φ1, H1⟩, hx, he⟩ := h
  have hpl : af.body.plain = true := by
    cases hbd : af.body <;> first | rfl | (rw [hbd] at hx; simp [execC] at hx)
  rw [chkB_plain hpl] at hbody
  refine ⟨fn, c, hfn, hb, hname, fun w ρ ι xs hm hs hxl hargs hslots harg Q k => ?_⟩
  obtain ⟨he1, r1, hr1, htr⟩ := fnEnd_some he
  have s0 := start_ok (E := EL P tbl (some N)) (n := fn.ntmps) hm hs hxl hargs hslots harg (by omega) (wf := false) rfl
  exact code_sound ih (hdrw _ _ ih) n c af.body hbody hLab _ _ _ _ _ _ _ _ _ hx s0 _ (fun a' w' ρ' ι' s' g' => k _ _ _ he1 (end_ok s' g' hm hres hr1 htr))

/-- One deferred call behind the marks. -/
theorem StA.callD {tbl : Tbl} {N : Nat} (htbl : ∀ k af, tbl k = some af → k < yBase → (∃ fn, P.funcs[k]? = some fn ∧ chkF P fn af = true) ∧ LabC tbl af.body)
    {call : CallF} (ih : CallOK (EL P tbl (some N)) P call) (hdrw : ∀ nt call, CallOK (EL P tbl (some N)) P call → DrwOK (EL P tbl (some N)) P nt call)
    (s : StA (EL P tbl (some N)) nt φ H ρ ι a w [] []) {n g : Nat} (hg : g < yBase) {vs : List V} {xs : Array Value} {r : V} {H' : Heap} (h : fnOne tbl (execC call n) g vs H = some (r, H')) (hl : xs.size = vs.length)
    (hR : ∀ (j : Nat) (v : V) (y : Value), vs[j]? = some v → xs[j]? = some y → R w (foot ρ) ι v y) :
    (∃ fn c, P.funcs[g]? = some fn ∧ fn.body = some c ∧ fn.name ≠ "runtime.NumGoroutine") ∧
    CallsDIn (wideR none) 0 P g xs .returning w fun e u' w' => u' = .returning ∧ ∃ x, e = .returned x ∧ ∃ ρ' ι', StA (EL P tbl (some N)) nt φ H' ρ' ι' a w' [r] [x] ∧ Goes ρ ι w ρ' ι' w' := by
  obtain ⟨fn, c, hfn, hb, hname, hw⟩ := fnOne_sound htbl ih hdrw hg h
  refine ⟨⟨fn, c, hfn, hb, hname⟩, ?_⟩
  refine s.call_gen (first := vs) (cap := []) (fs := xs) (cs := #[]) (r := r) (H' := H') (fun A => CallsDIn (wideR none) 0 P g xs .returning w fun e u' w' => u' = .returning ∧ A e w') (fun hA hAB => CallsDIn.mono hA (fun e u' w' q => ⟨q.1, hAB _ _ q.2⟩)) ?_ hl rfl hR (by simp)
  intro ρ' h1 h2 h3 h4 h5 h6
  refine callsD_of_marks (B := w.heap.size) (fn := fn) hfn hb ?_
  refine hw w ρ' ι xs h1 h2 hl (fun j v x hv hx => h4 j v x (by simpa using hv) (by simpa using hx)) (fun j hj => h5 j (by simpa using hj)) h6 _ (fun e a w' he hE => ⟨he, hE⟩)

theorem Shut.R {w' : World} {B : Nat} (h : Shut w w' B) {v : V} {x : Value} (hr : R w (foot ρ) ι v x) : R w' (foot ρ) ι v x :=
  hr.mono (fun b o y h1 h2 => ⟨h.cell b o y h1, h2⟩) (fun _ _ h => h) (fun b n ⟨c, t, fr, h1, h2⟩ => ⟨c, t, fr, (h.obj _ (fun d hd => by rw [h1] at hd; cases hd)).trans h1, h2⟩)

theorem chkKs_ok : ∀ {Xs : List Operand} {ks : List Nat}, chkKs Xs ks = true → Xs = ks.map Operand.tmp
  | [], [], _ => rfl
  | .tmp k :: l, j :: m, h => by
    simp only [chkKs, Bool.and_eq_true, beq_iff_eq] at h
    rw [h.1, chkKs_ok h.2]; rfl
  | [], _ :: _, h => by simp [chkKs] at h
  | X :: _, [], h => by cases X <;> simp [chkKs] at h

theorem run_last {call : CallF} {q : AOper} : ∀ {l : List AOper} {φ φ2 : Fr} {H H2 : Heap}, runOps call (l ++ [q]) φ H = some (φ2, H2) → ∃ φm Hm, stepO call q φm Hm = some (φ2, H2)
  | [], φ, φ2, H, H2, h => by
    simp only [List.nil_append, runOps] at h
    split at h
    · rename_i φ1 H1 hs
      cases h
      exact ⟨φ, H, hs⟩
    · cases h
  | o :: l, φ, φ2, H, H2, h => by
    simp only [List.cons_append, runOps] at h
    split at h
    · exact run_last h
    · cases h

theorem chkYs_ok : ∀ {ys : List AX} {ks : List Nat}, chkYs ys ks = true → ys = ks.map AX.t
  | [], [], _ => rfl
  | .t k :: l, j :: m, h => by
    simp only [chkYs, Bool.and_eq_true, beq_iff_eq] at h
    rw [h.1, chkYs_ok h.2]; rfl
  | [], _ :: _, h => by simp [chkYs] at h
  | X :: _, [], h => by cases X <;> simp [chkYs] at h
  | .c _ :: _, _ :: _, h => by simp [chkYs] at h

theorem seq_parts {call : CallF} {n : Nat} {a b : AC} {φ φ1 : Fr} {H H1 : Heap} (h : execC call n (.seq a b) φ H = some (.normal, φ1, H1)) : ∃ φa Ha, execC call n a φ H = some (.normal, φa, Ha) ∧ execC call n b φa Ha = some (.normal, φ1, H1) := by
  simp only [execC] at h
  split at h
  · rename_i φa Ha ha
    exact ⟨φa, Ha, ha, h⟩
  · rename_i hne
    exact absurd h (hne _ _)

/-- The end of a body behind which a deferred call waits. -/
theorem dfr_leaves {tbl : Tbl} {N : Nat} (htbl : ∀ k af, tbl k = some af → k < yBase → (∃ fn, P.funcs[k]? = some fn ∧ chkF P fn af = true) ∧ LabC tbl af.body)
    {call : CallF} (ih : CallOK (EL P tbl (some N)) P call) (hdrw : ∀ nt call, CallOK (EL P tbl (some N)) P call → DrwOK (EL P tbl (some N)) P nt call)
    {m n g : Nat} (hg : g < yBase) {vs : List V} {xa cs xs : Array Value} (hxs : xa ++ cs = xs) {ρ0 : Own} {ι0 : Places} {w0 : World} {H0 : Heap} {fn : Func} {res : List ARes} {e : AExit} {r : V} {H' : Heap}
    (s : StA (EL P tbl (some N)) { n := m, B := w0.heap.size, rd := none, dd := some { target := .fn (.func g) cs, args := xa } } φ H ρ ι a w [] []) (gg : Goes ρ0 ι0 w0 ρ ι w) (hm : Mem (EL P tbl (some N)) H0 ι0 ρ0 w0) (hres : chkRes P fn.results.toList res = true)
    (h : dfrEnd tbl (execC call n) g vs res H0.length (e, φ, H) = some (r, H')) (hl : xs.size = vs.length) (hR : ∀ (j : Nat) (v : V) (y : Value), vs[j]? = some v → xs[j]? = some y → R w (foot ρ) ι v y) :
    (exitOf e = .normal ∨ exitOf e = .ret) ∧ LeavesInM (wideR none) 0 P fn a.tmps (Left (EL P tbl (some N)) r H' ρ0 ι0 w0) a.defers .returning w := by
  have hh : (exitOf e = .normal ∨ exitOf e = .ret) ∧ ((fnOne tbl (execC call n) g vs H).bind fun p => fnEnd res H0.length (.ret, φ, p.2)) = some (r, H') := by
    cases e with
    | exit i => cases h
    | ret => exact ⟨.inr rfl, h⟩
    | normal => exact ⟨.inl rfl, h⟩
  refine ⟨hh.1, ?_⟩
  obtain ⟨⟨rg, Hg⟩, hone, hend⟩ := Option.bind_eq_some_iff.1 hh.2
  obtain ⟨_, r1, hr1, htr⟩ := fnEnd_some hend
  have hdf := s.df
  unfold Df at hdf
  dsimp only at hdf
  obtain ⟨hB, Ds, Es, hds, hnd, hD⟩ := hdf
  have hnd' := List.nodup_append.1 hnd
  rw [hds]
  refine leaves_marks _ Ds w hnd'.1 (fun D hd => hD D (by simp [hd])) (fun w4 hsh hoth => ?_)
  have s4 := s.shut rfl hB hsh
  have g4 := gg.shut hsh
  obtain ⟨⟨fg, cg, hfg, hbg, hng⟩, hC⟩ := s4.callD htbl ih hdrw hg hone hl (fun j v y h1 h2 => hsh.R (hR j v y h1 h2))
  have hcl : callable P g = true := by unfold callable; rw [hfg]; simp [hng, hbg]
  refine ⟨by simp, .inr ⟨fun h => by simp [wideR, Fence.wide] at h, .func g, cs, g, xs, rfl, ?_, fun _ _ => trivial, ?_⟩⟩
  · have := callable_ok (w := w4) hcl xs
    simp only [invoke, hxs]
    exact this
  · refine CallsDIn.mono hC ?_
    rintro e' u' w5 ⟨rfl, x, rfl, ρ5, ι5, s5, g5⟩
    obtain ⟨ρ6, s6, g6⟩ := s5.put none (by simp)
    have hE := end_ok (P := P) (fn := fn) (w0 := w0) s6 ((g4.trans g5).trans g6) hm hres hr1 htr
    obtain ⟨_, _, _, _, hfin⟩ := hE
    show LeavesInM (wideR none) 0 P fn a.tmps _ (Es.map mark) .returning w5
    rw [← List.append_nil (Es.map mark)]
    refine leaves_marks [] Es w5 hnd'.2.1 (fun D hd => ⟨(hD D (by simp [hd])).1, ?_⟩) (fun w6 hsh2 _ => ?_)
    · refine g5.kp.obj_deferred ?_
      rw [hoth D (fun hc => hnd'.2.2 D hc D hd rfl)]
      exact (hD D (by simp [hd])).2
    · exact hfin w6 hsh2

theorem fn_sound {tbl : Tbl} {N : Nat} {ext : Ext} (htbl : ∀ k af, tbl k = some af → k < yBase → (∃ fn, P.funcs[k]? = some fn ∧ chkF P fn af = true) ∧ LabC tbl af.body)
    (hext : ∀ lim k e, ext k = some e → ∀ args H r H', e args H = some (r, H') → RealCall (EL P tbl lim) P k args H r H') {call : CallF} (ih : CallOK (EL P tbl (some N)) P call) (hdrw : ∀ nt call, CallOK (EL P tbl (some N)) P call → DrwOK (EL P tbl (some N)) P nt call)
    {n f : Nat} (hfy : f < yBase) {args : List V} {H : Heap} {r : V} {H' : Heap} (h : fnRun tbl ext (execC call n) f args H = some (r, H')) : RealCall (EL P tbl (some N)) P f args H r H' := by
  unfold fnRun at h
  split at h
  · exact hext _ _ _ ‹_› _ _ _ _ h
  · split at h <;> try cases h
    rename_i af haf
    split at h <;> try cases h
    rename_i hlen
    split at h
    · rename_i pre X ops g ks rest hbd
      obtain ⟨⟨fn, hfn, hchk⟩, hLab⟩ := htbl _ _ haf hfy
      simp only [chkF, Bool.and_eq_true, bne_iff_ne, ne_eq, decide_eq_true_eq] at hchk
      obtain ⟨⟨⟨hname, hnp⟩, hres⟩, hbody⟩ := hchk
      split at hbody <;> try cases hbody
      rename_i c hb
      rw [hbd] at hbody hLab
      refine ⟨fun g hg => by rw [fnNo_lt hfy] at hg; cases hg; unfold callable; rw [hfn]; simp [hname, hb], fun w ρ ι xs hm hs hxl hargs hslots harg => ?_⟩
      unfold CallOf
      rw [fnNo_lt hfy]
      refine calls_wideR.1 (callsIn_of_wp_marks (F := wideR none) (n := 0) hfn hb trivial ?_)
      have s0 := start_ok (E := EL P tbl (some N)) (n := fn.ntmps) hm hs hxl hargs hslots harg (by omega) (wf := false) rfl
      unfold chkB at hbody
      split at hbody
      rotate_left
      · rename_i C0 C1 id rops draw C3 a0 a1 al g' ks' a3 hne hbd'
        cases hbd'
        simp only [Bool.and_eq_true, Bool.not_eq_true', decide_eq_true_eq] at hbody
        obtain ⟨⟨⟨⟨⟨rfl, hk0⟩, hk1⟩, hkl⟩, hgy⟩, hk3⟩ := hbody
        obtain ⟨hL01, hLo, hL3⟩ := hLab
        rw [Option.bind_eq_some_iff] at h
        obtain ⟨⟨e1, φ1, H1⟩, hpre, h⟩ := h
        cases e1 with
        | exit i => cases h
        | ret => cases h
        | normal =>
        obtain ⟨φa, Ha, hx0, hx1⟩ := seq_parts hpre
        refine wpIn_seq (code_sound ih (hdrw _ _ ih) n C0 a0 hk0 hL01.1 _ _ _ _ _ _ _ _ _ hx0 s0 _ (fun aA wA ρA ιA sA gA => ?_))
        refine wpIn_seq (code_sound ih (hdrw _ _ ih) n C1 a1 hk1 hL01.2 _ _ _ _ _ _ _ _ _ hx1 sA _ (fun aB wB ρB ιB sB gB => ?_))
        simp only [dfrPre, ev] at h
        rw [Option.bind_eq_some_iff] at h
        obtain ⟨⟨e2, φ2, H2⟩, hops, h⟩ := h
        cases e2 with
        | exit i => cases h
        | ret => cases h
        | normal =>
        simp only [dfrOps] at h
        rw [Option.bind_eq_some_iff] at h
        obtain ⟨⟨e3, φ3, H3⟩, hx3, h⟩ := h
        obtain ⟨φb, Hb, hxo, hxr⟩ := seq_parts hops
        simp only [execC, Option.some.injEq, Prod.mk.injEq, true_and] at hxo
        obtain ⟨rfl, rfl⟩ := hxo
        simp only [execC] at hxr
        split at hxr <;> try cases hxr
        rename_i hrun
        unfold chkLastF at hkl
        split at hkl <;> try cases hkl
        rename_i o l q al' hrev hrevA
        simp only [Bool.and_eq_true, Option.isNone_iff_eq_none] at hkl
        obtain ⟨⟨⟨hco, hdst⟩, hgd⟩, hop⟩ := hkl
        split at hop <;> try cases hop
        rename_i t args' ts' t' g'' ys hdef
        simp only [Bool.and_eq_true, beq_iff_eq, Bool.not_eq_true'] at hop
        obtain ⟨⟨⟨⟨hemp, rfl⟩, rfl⟩, hys⟩, hnt⟩ := hop
        have hlist : rops.toList = l.reverse ++ [o] := by
          have := congrArg List.reverse hrev
          simpa using this
        refine wpIn_seq (wpIn_region_list ?_)
        rw [hlist]
        refine ops_sound_on ih (nt := { n := fn.ntmps, B := w.heap.size, rd := none }) [o] l.reverse al _ _ ρB ιB _ _ hco hrun sB (fun aD wD ρD ιD sD gD => ?_)
        have halE : al = al'.reverse ++ [⟨some t, none, .mkf (.func g) [] ys⟩] := by
          have := congrArg List.reverse hrevA
          simpa using this
        obtain ⟨φm, Hm, hst⟩ := run_last (halE ▸ hrun)
        simp only [stepO, wantedA, stepA, List.map_nil, Option.some.injEq, Prod.mk.injEq] at hst
        obtain ⟨hφ, _⟩ := hst
        have hget : Fr.get φ2 t = .fn (.func g) [] (ks.map fun k => (Fr.get φ2 k).strip) := by
          have hk : ∀ k ∈ ks, (rd φm (.t k)) = (Fr.get φ2 k).strip := fun k hk => by
            have hne : k ≠ t := fun e => by subst e; rw [List.contains_iff_mem.2 hk] at hnt; cases hnt
            rw [← hφ]
            simp [rd, ev, Fr.put, hne]
          rw [← List.map_congr_left hk, ← hφ, chkYs_ok hys, List.map_map]
          simp [Fr.put]
        have hF := (sD.sl t).R
        rw [hget] at hF
        obtain ⟨fs, cs, eF, q1, q2, q3, q4⟩ := hF.fn_inv
        obtain rfl : fs = #[] := Array.eq_empty_of_size_eq_zero (by simpa using q1)
        obtain rfl : args' = #[] := by simpa using hemp
        unfold wpListIn
        rw [if_pos (by simp [Region.wanted, hgd])]
        have hrunD : (o.semAt (wideR none).round aD.eval).run P wD = .ok (.defer { target := .fn (.func g) cs, args := #[] }) wD := by
          show (execOp aD.eval o).run P wD = _
          have heT : aD.eval (.tmp t) = .func (.func g) #[] cs := eF
          simp only [execOp, hdef, resolve, heT, Deferred.ofValue, Sem.run_bind, Sem.run_pure, Result.andThen, Array.empty_append, Array.map_empty]
        refine ⟨fun _ _ => trivial, ?_⟩
        rw [hrunD, Oper.uponIn_defer, hdst]
        have sE : StA (EL P tbl (some N)) { n := fn.ntmps, B := w.heap.size, rd := none, dd := some { target := .fn (.func g) cs, args := #[] } } φ2 H2 ρD ιD { aD with defers := { target := .fn (.func g) cs, args := #[] } :: aD.defers } wD [] [] :=
          ⟨sD.sz, sD.df.defer _, sD.sl, sD.al, sD.ar, sD.an, sD.mem, sD.sep, sD.wd⟩
        show wpListIn _ 0 P rops _ [] { aD with defers := _ :: aD.defers } wD
        unfold wpListIn
        refine code_sound ih (hdrw _ _ ih) n C3 rest hk3 hL3 _ _ _ _ _ _ _ _ _ hx3 sE _ (fun aF wF ρF ιF sF gF => ?_)
        have hlv := dfr_leaves htbl ih hdrw (fn := fn) hgy (Array.empty_append ..) sF (((gA.trans gB).trans gD).trans gF) hm hres h (by simpa using q2) (fun j v y h1 h2 => (q4 j v y h1 h2).ext gF)
        rcases hlv.1 with he3 | he3 <;> (rw [he3]; exact hlv.2)
      · cases hbody
      · rename_i hne _ _; exact (hne _ _ _ _ _ _ rfl).elim
      rename_i C0 C1 Xo C2 id rops draw C3 a0 a1 x o2 al g' ks' a3 hbd'
      cases hbd'
      simp only [Bool.and_eq_true, Bool.not_eq_true', decide_eq_true_eq] at hbody
      obtain ⟨⟨⟨⟨⟨⟨⟨rfl, hk0⟩, hk1⟩, hkX⟩, hk2⟩, hkl⟩, hgy⟩, hk3⟩ := hbody
      obtain ⟨hL01, hLo, hL3⟩ := hLab
      rw [Option.bind_eq_some_iff] at h
      obtain ⟨⟨e1, φ1, H1⟩, hpre, h⟩ := h
      cases e1 with
      | exit i => cases h
      | ret => cases h
      | normal =>
      obtain ⟨φa, Ha, hx0, hx1⟩ := seq_parts hpre
      refine wpIn_seq (code_sound ih (hdrw _ _ ih) n C0 a0 hk0 hL01.1 _ _ _ _ _ _ _ _ _ hx0 s0 _ (fun aA wA ρA ιA sA gA => ?_))
      refine wpIn_seq (wpIn_seq (code_sound ih (hdrw _ _ ih) n C1 a1 hk1 hL01.2 _ _ _ _ _ _ _ _ _ hx1 sA _ (fun aB wB ρB ιB sB gB => ?_)))
      have hR := rd_ok sB hkX
      simp only [dfrPre] at h
      split at h
      · rename_i hev
        rw [rd_ev hev rfl] at hR
        rw [Option.bind_eq_some_iff] at h
        obtain ⟨⟨e3, φ3, H3⟩, hx3, h⟩ := h
        obtain ⟨he3, r1, hr1, htr⟩ := fnEnd_some h
        refine wpIn_cond_false hR.bool_inv (wpIn_skip ?_)
        refine code_sound ih (hdrw _ _ ih) n C3 rest hk3 hL3 _ _ _ _ _ _ _ _ _ hx3 sB _ (fun aC wC ρC ιC sC gC => ?_)
        have hE := end_ok (P := P) (fn := fn) sC ((gA.trans gB).trans gC) hm hres hr1 htr
        rcases he3 with he3 | he3 <;> (dsimp only at he3; rw [he3]; exact hE.leaves)
      · rename_i hev
        rw [rd_ev hev rfl] at hR
        rw [Option.bind_eq_some_iff] at h
        obtain ⟨⟨e2, φ2, H2⟩, hops, h⟩ := h
        cases e2 with
        | exit i => cases h
        | ret => cases h
        | normal =>
        simp only [dfrOps] at h
        rw [Option.bind_eq_some_iff] at h
        obtain ⟨⟨e3, φ3, H3⟩, hx3, h⟩ := h
        obtain ⟨φb, Hb, hxo, hxr⟩ := seq_parts hops
        refine wpIn_cond_true hR.bool_inv (wpIn_seq (code_sound ih (hdrw _ _ ih) n C2 o2 hk2 hLo.1 _ _ _ _ _ _ _ _ _ hxo sB _ (fun aC wC ρC ιC sC gC => ?_)))
        simp only [execC] at hxr
        split at hxr <;> try cases hxr
        rename_i hrun
        unfold chkLast at hkl
        split at hkl <;> try cases hkl
        rename_i o l hrev
        simp only [Bool.and_eq_true, Option.isNone_iff_eq_none] at hkl
        obtain ⟨⟨⟨hco, hdst⟩, hgd⟩, hop⟩ := hkl
        split at hop <;> try cases hop
        rename_i f' args' ts' hdef
        simp only [Bool.and_eq_true, beq_iff_eq] at hop
        obtain ⟨rfl, hks⟩ := hop
        have hlist : rops.toList = l.reverse ++ [o] := by
          have := congrArg List.reverse hrev
          simpa using this
        refine wpIn_region_list ?_
        rw [hlist]
        refine ops_sound_on ih (nt := { n := fn.ntmps, B := w.heap.size, rd := none }) [o] l.reverse al _ _ ρC ιC _ _ hco hrun sC (fun aD wD ρD ιD sD gD => ?_)
        have hargsE : args'.map aD.eval = (ks.map fun k => aD.tmps.getD k Go.undef).toArray := by
          apply Array.ext'
          rw [Array.toList_map, chkKs_ok hks, List.map_map]
          rfl
        unfold wpListIn
        rw [if_pos (by simp [Region.wanted, hgd])]
        have hrunD : (o.semAt (wideR none).round aD.eval).run P wD = .ok (.defer { target := .fn (.func f') #[], args := (ks.map fun k => aD.tmps.getD k Go.undef).toArray }) wD := by
          show (execOp aD.eval o).run P wD = _
          simp only [execOp, hdef, resolve, Act.eval, Deferred.ofValue, Sem.run_bind, Sem.run_pure, Result.andThen, Array.empty_append]
          rw [← hargsE]
        refine ⟨fun _ _ => trivial, ?_⟩
        rw [hrunD, Oper.uponIn_defer, hdst]
        have sE : StA (EL P tbl (some N)) { n := fn.ntmps, B := w.heap.size, rd := none, dd := some { target := .fn (.func f') #[], args := (ks.map fun k => aD.tmps.getD k Go.undef).toArray } } φ2 H2 ρD ιD { aD with defers := { target := .fn (.func f') #[], args := (ks.map fun k => aD.tmps.getD k Go.undef).toArray } :: aD.defers } wD [] [] :=
          ⟨sD.sz, sD.df.defer _, sD.sl, sD.al, sD.ar, sD.an, sD.mem, sD.sep, sD.wd⟩
        show wpListIn _ 0 P rops _ [] { aD with defers := _ :: aD.defers } wD
        unfold wpListIn
        refine code_sound ih (hdrw _ _ ih) n C3 rest hk3 hL3 _ _ _ _ _ _ _ _ _ hx3 sE _ (fun aF wF ρF ιF sF gF => ?_)
        have hlv := dfr_leaves htbl ih hdrw (fn := fn) hgy (Array.append_empty ..) sF ((((gA.trans gB).trans gC).trans gD).trans gF) hm hres h (by simp) (fun j v y h1 h2 => ?_)
        · rcases hlv.1 with he3 | he3 <;> (rw [he3]; exact hlv.2)
        · simp only [List.getElem?_toArray, List.getElem?_map, Option.map_eq_some_iff] at h1 h2
          obtain ⟨k, hk, rfl⟩ := h1
          obtain ⟨k', hk', rfl⟩ := h2
          rw [hk] at hk'
          cases hk'
          exact ((sD.sl k).R).ext gF
      · cases h
    · rename_i b hnd
      have hone : fnOne tbl (execC call n) f args H = some (r, H') := by
        unfold fnOne
        rw [haf]
        dsimp only
        rw [if_pos hlen]
        exact h
      obtain ⟨fn, c, hfn, hb, hname, hw⟩ := fnOne_sound htbl ih hdrw hfy hone
      refine ⟨fun g hg => by rw [fnNo_lt hfy] at hg; cases hg; unfold callable; rw [hfn]; simp [hname, hb], fun w ρ ι xs hm hs hxl hargs hslots harg => ?_⟩
      unfold CallOf
      rw [fnNo_lt hfy]
      refine calls_wideR.1 (callsIn_of_wp_marks (F := wideR none) (n := 0) hfn hb trivial ?_)
      refine hw w ρ ι xs hm hs hxl hargs hslots harg _ (fun e a w' he hE => ?_)
      rcases he with rfl | rfl
      · exact hE.leaves
      · exact hE.leaves

/-- The wide form's end. -/
theorem endW_ok {n : Nat} {ρ0 : Own} {ι0 : Places} {w0 : World} {H0 H1 : Heap} {φ' : Fr} {ρ' : Own} {ι' : Places} {a' : Act} {w' : World} (s' : StA E { n, B := w0.heap.size, rd := none, w := true } φ' H1 ρ' ι' a' w' [] []) (g' : Goes ρ0 ι0 w0 ρ' ι' w') (hm : Mem E H0 ι0 ρ0 w0)
    {fn : Func} {res : List ARes} (hres : chkRes P fn.results.toList res = true) {r : V} (hr1 : result φ' H1 res = some r) : EndM (P := P) w0.heap.size fn (Left E r H1 ρ0 ι0 w0) a' w' := by
  have hdf := s'.df
  unfold Df at hdf
  dsimp only at hdf
  obtain ⟨hB, Ds, Es, hds, hnd, hD⟩ := hdf
  refine ⟨Ds ++ Es, by simp [hds], hnd, hD, fun w2 hsh => ?_⟩
  have s2 := s'.shut rfl hB hsh
  have g2 := g'.shut hsh
  obtain ⟨x, tl, hrun, hRL, htl⟩ := result_ok s2 hres hr1
  refine ⟨x, hrun, ?_⟩
  obtain ⟨m, ht2⟩ : ∃ m, tl = none ∨ tl = ρ' (.slot m) := by
    rcases htl with h | ⟨m, h⟩
    · exact ⟨0, .inl h⟩
    · exact ⟨m, .inr h⟩
  have hio : ι0.length ≤ ι'.length := by
    rcases Nat.lt_or_ge ι'.length ι0.length with h1 | h1
    · have := g'.io ι'.length ι0[ι'.length] (by simp)
      have := get_some this; omega
    · exact h1
  have hml := hm.len
  have hml' := s'.mem.len
  have hfs : ∀ b o, foot (ρ'.ret H1.length tl) b o → foot ρ' b o := fun b o h => foot_rename _ (ret_up m ht2) b o h
  have hru : r.under H1.length = true := by rw [show H1.length = ι'.length by omega]; exact hRL.under
  have hmem := s2.mem.take (ρ' := ρ'.ret H1.length tl) H1.length (.inr (Nat.le_refl _)) (fun _ => rfl) (fun _ _ => rfl) hfs
  rw [List.take_length] at hmem
  refine ⟨x, ρ'.ret H1.length tl, ι'.take H1.length, rfl, hmem, ret_sep m ht2 s2.sep, ?_, fun s hs0 => by simp [Own.ret, hs0], fun _ => rfl, g2.take H1.length (by omega) (fun k p hm h => ⟨_, by cases k <;> first | rfl | exact hm, ret_up m ht2 k p h⟩) (fun _ => rfl)⟩
  simp only [Own.ret, if_true]
  exact (RL.take H1.length hRL hru).anti hfs

theorem wideEnd_some {res : List ARes} {y : AExit × Fr × Heap} {r : V} {H' : Heap} (h : wideEnd res y = some (r, H')) : (exitOf y.1 = .normal ∨ exitOf y.1 = .ret) ∧ result y.2.1 y.2.2 res = some r ∧ y.2.2 = H' := by
  obtain ⟨e, φ, H⟩ := y
  cases e with
  | exit i => cases h
  | ret =>
    simp only [wideEnd, Option.map_eq_some_iff, Prod.mk.injEq] at h
    obtain ⟨r1, h1, rfl, rfl⟩ := h
    exact ⟨.inr rfl, h1, rfl⟩
  | normal =>
    simp only [wideEnd, Option.map_eq_some_iff, Prod.mk.injEq] at h
    obtain ⟨r1, h1, rfl, rfl⟩ := h
    exact ⟨.inl rfl, h1, rfl⟩

/-- The wide form of a function. -/
theorem wide_sound {tbl : Tbl} (htblW : ∀ k af, tbl (wTab k) = some af → (∃ fn, P.funcs[k]? = some fn ∧ chkW P fn af = true) ∧ LabC tbl af.body)
    {call : CallF} (ih : CallOK (EL P tbl none) P call) (hdrw : ∀ nt call, CallOK (EL P tbl none) P call → DrwOK (EL P tbl none) P nt call)
    {n f : Nat} {args : List V} {H : Heap} {r : V} {H' : Heap} (h : wideRun tbl (execC call n) f args H = some (r, H')) : RealCall (EL P tbl none) P (wNo f) args H r H' := by
  unfold wideRun at h
  split at h <;> try cases h
  rename_i af haf
  split at h <;> try cases h
  rename_i hlen
  obtain ⟨⟨fn, hfn, hchk⟩, hLab⟩ := htblW _ _ haf
  simp only [chkW, Bool.and_eq_true, bne_iff_ne, ne_eq, decide_eq_true_eq] at hchk
  obtain ⟨⟨⟨hname, hnp⟩, hres⟩, hbody⟩ := hchk
  split at hbody <;> try cases hbody
  rename_i c hb
  rw [Option.bind_eq_some_iff] at h
  obtain ⟨⟨e, φ1, H1⟩, hx, he⟩ := h
  obtain ⟨he1, hr1, heq⟩ := wideEnd_some he
  dsimp only at heq hr1 he1
  subst heq
  refine ⟨fun g hg => by rw [fnNo_w] at hg; cases hg; unfold callable; rw [hfn]; simp [hname, hb], fun w ρ ι xs hm hs hxl hargs hslots harg => ?_⟩
  unfold CallOf
  rw [fnNo_w]
  refine calls_wideR.1 (callsIn_of_wp_marks (F := wideR none) (n := 0) hfn hb trivial ?_)
  have s0 := start_ok (E := EL P tbl none) (n := fn.ntmps) hm hs hxl hargs hslots harg (by omega) (wf := true) rfl
  refine code_sound (nt := { n := fn.ntmps, B := w.heap.size, rd := none, w := true }) ih (hdrw _ _ ih) n c af.body hbody hLab _ _ _ _ _ _ _ _ _ hx s0 _ (fun a' w' ρ' ι' s' g' => ?_)
  have hE := endW_ok (P := P) (fn := fn) s' g' hm hres hr1
  rcases he1 with h1 | h1 <;> (rw [h1]; exact hE.leaves)

/-- What is asked of a table's entry. -/
def Fit (P : Program) (tbl : Tbl) (k : Nat) (af : AFunc) : Prop :=
  (k < yBase → (∃ fn, P.funcs[k]? = some fn ∧ chkF P fn af = true) ∧ LabC tbl af.body) ∧ ∀ j, k = wTab j → (∃ fn, P.funcs[j]? = some fn ∧ chkW P fn af = true) ∧ LabC tbl af.body

theorem Fit.plain {tbl : Tbl} {k : Nat} {af : AFunc} (h : ∃ fn, P.funcs[k]? = some fn ∧ chkF P fn af = true) (hl : LabC tbl af.body) (hk : Nat.ble k 2000000 = true := by rfl) : Fit P tbl k af :=
  ⟨fun _ => ⟨h, hl⟩, fun j e => by have := Nat.le_of_ble_eq_true hk; unfold wTab at e; omega⟩

theorem Fit.wide {tbl : Tbl} {k : Nat} {af : AFunc} (h : ∃ fn, P.funcs[k]? = some fn ∧ chkW P fn af = true) (hl : LabC tbl af.body) : Fit P tbl (3000000 + k) af :=
  ⟨fun h => by unfold yBase at h; omega, fun j e => by
    have : j = k := by unfold wTab at e; omega
    subst this; exact ⟨h, hl⟩⟩

theorem Fit.label {tbl : Tbl} {k : Nat} {af : AFunc} (h1 : 2000000 ≤ k) (h2 : k ≤ 2999999) : Fit P tbl k af :=
  ⟨fun h => by unfold yBase at h; omega, fun j e => by unfold wTab at e; omega⟩

theorem run_sound {tbl : Tbl} {ext : Ext} (htbl : ∀ k af, tbl k = some af → k < yBase → (∃ fn, P.funcs[k]? = some fn ∧ chkF P fn af = true) ∧ LabC tbl af.body)
    (htblW : ∀ k af, tbl (wTab k) = some af → (∃ fn, P.funcs[k]? = some fn ∧ chkW P fn af = true) ∧ LabC tbl af.body)
    (hext : ∀ lim k e, ext k = some e → ∀ args H r H', e args H = some (r, H') → RealCall (EL P tbl lim) P k args H r H') (hdrw : ∀ lim nt call, CallOK (EL P tbl lim) P call → DrwOK (EL P tbl lim) P nt call) : ∀ n, CallOK (EL P tbl none) P (run tbl ext n)
  | 0 => fun f args H r H' h => by cases h
  | n + 1 => by
    have ih := run_sound htbl htblW hext hdrw n
    intro f args H r H' h lim hlim
    unfold run runF at h
    have both : (∀ N, RealCall (EL P tbl (some N)) P f args H r H') → RealCall ((EL P tbl none).at lim) P f args H r H' := by
      intro hN
      cases lim with
      | some N => exact hN N
      | none => exact RealCall.widen (E := EL P tbl none) hN
    split at h
    · exact both fun N => fn_sound htbl hext ih (hdrw _) ‹_› h
    · rename_i hf
      split at h
      · rename_i hy
        have hfy : f = yNo ((f - yBase) / 2) := by unfold yNo; omega
        refine both fun N => ?_
        have := round_sound (N := N) ih (hdrw _) h
        rwa [← hfy] at this
      · rename_i hy
        have hfw : f = wNo ((f - yBase) / 2) := by unfold wNo; omega
        have hl : lim = none := hlim (by simp only [wideNo, hf, decide_false, Bool.not_false, Bool.true_and, bne_iff_ne, ne_eq]; exact hy)
        subst hl
        have := wide_sound htblW ih (hdrw _) h
        rwa [← hfw] at this

theorem tab_here {P : Program} {w : World} (h : VarsOK (globs P) (tabs P) w) {p : Nat × List Value} (hp : p ∈ tabs P) : p.1 < w.heap.size := by
  have h1 := h.2 p hp
  obtain ⟨g, _, rfl⟩ := List.mem_map.1 hp
  exact lt_of_obj (cell_obj (h1 0 (.int .u8 0) rfl)).choose_spec.choose_spec.choose_spec.1

/-- A law: over no memory of ours, plain arguments; it answers true. -/
theorem law_calls {tbl : Tbl} {ext : Ext} (htbl : ∀ k af, tbl k = some af → k < yBase → (∃ fn, P.funcs[k]? = some fn ∧ chkF P fn af = true) ∧ LabC tbl af.body)
    (htblW : ∀ k af, tbl (wTab k) = some af → (∃ fn, P.funcs[k]? = some fn ∧ chkW P fn af = true) ∧ LabC tbl af.body)
    (hext : ∀ lim k e, ext k = some e → ∀ args H r H', e args H = some (r, H') → RealCall (EL P tbl lim) P k args H r H') (hdrw : ∀ lim nt call, CallOK (EL P tbl lim) P call → DrwOK (EL P tbl lim) P nt call) {f n : Nat} (hfy : f < yBase) {args : List V} {r : V} {H' : Heap}
    (h : run tbl ext n f args [] = some (r, H')) (w : World) (hg : VarsOK (globs P) (tabs P) w) (xs : Array Value) (hl : xs.size = args.length) (hx : ∀ (j : Nat) (v : V) (x : Value), args[j]? = some v → xs[j]? = some x → R w (fun _ _ => False) [] v x) :
    Calls P f xs w fun e w' => ∃ x, e = .returned x ∧ (∀ b, r = .bool b → x = .bool b) ∧ Go.RowKit.Below w.heap.size w w' := by
  have hfalse : foot (fun _ => none) = fun _ _ => False := by
    funext b o
    exact propext ⟨fun ⟨_, _, h, _⟩ => (by cases h), fun h => h.elim⟩
  refine (((run_sound htbl htblW hext hdrw n _ _ _ _ _ h (some 0) (fun h => by rw [wideNo_lt hfy] at h; cases h)).2 w (fun _ => none) [] xs ⟨rfl, fun i vs h => by simp at h, fun i vs l h => by simp at h, fun _ _ => ⟨rfl, fun _ => rfl⟩, fun _ _ _ _ _ => rfl, ⟨fun g hg' => ⟨hg.1 g hg', fun _ _ _ h => (by cases h)⟩, fun p hp => ⟨hg.2 p hp, tab_here hg hp, fun _ _ _ h => (by cases h)⟩⟩, fun N hN => by cases hN; exact Nat.le_refl _⟩ ⟨fun _ _ _ _ _ h => (by cases h), fun _ _ _ h => (by cases h)⟩ hl (fun j v x hv hy => ?_) (fun _ _ => rfl) (fun _ => rfl)).calls hfy).mono ?_
  · rw [hfalse]; exact R.RL (hx j v x hv hy)
  · rintro e w' ⟨x, ρ', ι', rfl, _, _, hR, _, _, g⟩
    refine ⟨x, rfl, fun b hb => ?_, ⟨g.kp.os, g.kp.tape, g.kp.output, g.kp.size, fun k hk => ?_⟩⟩
    · subst hb; exact ((RL_other (by simp)).1 hR).1.bool_inv
    · have := g.kp.obj k hk
      unfold ObjKp at this
      split at this
      · rename_i c t fr he
        obtain ⟨c', fr', h1, h2, h3, h4⟩ := this
        rw [h1, he, h4 (fun _ h => by obtain ⟨_, _, _, h, _⟩ := h; cases h)]
        congr 2
        apply Array.ext h2
        intro i hi1 hi2
        have := h3 i (fun h => by obtain ⟨_, _, _, h, _⟩ := h; cases h)
        rw [Array.getElem?_eq_getElem hi1, Array.getElem?_eq_getElem hi2] at this
        exact Option.some.inj this
      · rename_i r he
        obtain ⟨r', h1, h2⟩ := this
        rw [h1, he, h2 (fun h => by obtain ⟨_, _, _, h, _⟩ := h; cases h)]
      · rename_i es n he
        obtain ⟨es', n', h1, h2⟩ := this
        have h2 := h2 (fun h => by obtain ⟨_, _, _, h, _⟩ := h; cases h)
        rw [h1, he, h2.1, h2.2]
      · exact this

/-- Likewise the wide form of a law. -/
theorem law_callsW {tbl : Tbl} {ext : Ext} (htbl : ∀ k af, tbl k = some af → k < yBase → (∃ fn, P.funcs[k]? = some fn ∧ chkF P fn af = true) ∧ LabC tbl af.body)
    (htblW : ∀ k af, tbl (wTab k) = some af → (∃ fn, P.funcs[k]? = some fn ∧ chkW P fn af = true) ∧ LabC tbl af.body)
    (hext : ∀ lim k e, ext k = some e → ∀ args H r H', e args H = some (r, H') → RealCall (EL P tbl lim) P k args H r H') (hdrw : ∀ lim nt call, CallOK (EL P tbl lim) P call → DrwOK (EL P tbl lim) P nt call) {f n : Nat} {args : List V} {r : V} {H' : Heap}
    (h : run tbl ext n (wNo f) args [] = some (r, H')) (w : World) (hg : VarsOK (globs P) (tabs P) w) (xs : Array Value) (hl : xs.size = args.length) (hx : ∀ (j : Nat) (v : V) (x : Value), args[j]? = some v → xs[j]? = some x → R w (fun _ _ => False) [] v x) :
    Calls P f xs w fun e w' => ∃ x, e = .returned x ∧ (∀ b, r = .bool b → x = .bool b) ∧ Go.RowKit.Below w.heap.size w w' := by
  have hfalse : foot (fun _ => none) = fun _ _ => False := by
    funext b o
    exact propext ⟨fun ⟨_, _, h, _⟩ => (by cases h), fun h => h.elim⟩
  refine (((run_sound htbl htblW hext hdrw n _ _ _ _ _ h none (fun _ => rfl)).2 w (fun _ => none) [] xs ⟨rfl, fun i vs h => by simp at h, fun i vs l h => by simp at h, fun _ _ => ⟨rfl, fun _ => rfl⟩, fun _ _ _ _ _ => rfl, ⟨fun g hg' => ⟨hg.1 g hg', fun _ _ _ h => (by cases h)⟩, fun p hp => ⟨hg.2 p hp, tab_here hg hp, fun _ _ _ h => (by cases h)⟩⟩, fun N hN => by cases hN⟩ ⟨fun _ _ _ _ _ h => (by cases h), fun _ _ _ h => (by cases h)⟩ hl (fun j v x hv hy => ?_) (fun _ _ => rfl) (fun _ => rfl)).callsW).mono ?_
  · rw [hfalse]; exact R.RL (hx j v x hv hy)
  · rintro e w' ⟨x, ρ', ι', rfl, _, _, hR, _, _, g⟩
    refine ⟨x, rfl, fun b hb => ?_, ⟨g.kp.os, g.kp.tape, g.kp.output, g.kp.size, fun k hk => ?_⟩⟩
    · subst hb; exact ((RL_other (by simp)).1 hR).1.bool_inv
    · have := g.kp.obj k hk
      unfold ObjKp at this
      split at this
      · rename_i c t fr he
        obtain ⟨c', fr', h1, h2, h3, h4⟩ := this
        rw [h1, he, h4 (fun _ h => by obtain ⟨_, _, _, h, _⟩ := h; cases h)]
        congr 2
        apply Array.ext h2
        intro i hi1 hi2
        have := h3 i (fun h => by obtain ⟨_, _, _, h, _⟩ := h; cases h)
        rw [Array.getElem?_eq_getElem hi1, Array.getElem?_eq_getElem hi2] at this
        exact Option.some.inj this
      · rename_i r he
        obtain ⟨r', h1, h2⟩ := this
        rw [h1, he, h2 (fun h => by obtain ⟨_, _, _, h, _⟩ := h; cases h)]
      · rename_i es n he
        obtain ⟨es', n', h1, h2⟩ := this
        have h2 := h2 (fun h => by obtain ⟨_, _, _, h, _⟩ := h; cases h)
        rw [h1, he, h2.1, h2.2]
      · exact this

end
end Go.AM
