/-
  Drawn regions: whatever order the machine draws, the head's operations give the values of the text's order, and the rest follows.
-/
import Derived.Test.YtddhdalacanngaaRun
import Derived.Test.YtddhdalacanngaaCong
set_option linter.unusedVariables false
set_option linter.unusedSimpArgs false
namespace Go.AM

section
variable {P : Program} {nt : Nat} {φ φ' ψ : Fr} {H H' : Heap} {ρ : Own} {ι : Places} {a : Act} {w : World} {o : Oper} {call : CallF} {v : V}

theorem StA.congr (s : StA nt φ H ρ ι a w [] []) (h : ∀ q, Fr.get φ q = Fr.get ψ q) : StA nt ψ H ρ ι a w [] [] :=
  ⟨s.sz, s.df, fun q => by rw [← h]; exact s.sl q, s.al, s.ar, s.an, s.mem, s.sep⟩

/-! ### A call that is given no reference -/

theorem flatAll_get : ∀ {cs : List V} {j : Nat} {v : V}, V.flatAll cs = true → cs[j]? = some v → v.flat = true
  | [], _, _, _, h => by simp at h
  | c :: cs, 0, v, hf, h => by
    simp only [V.flatAll, Bool.and_eq_true] at hf
    simp at h; subst h; exact hf.1
  | c :: cs, j + 1, v, hf, h => by
    simp only [V.flatAll, Bool.and_eq_true] at hf
    exact flatAll_get hf.2 (by simpa using h)

theorem R.flat {w w' : World} {F F' : Nat → Nat → Prop} {ι ι' : Places} {v : V} {x : Value} (h : R w F ι v x) (hf : v.flat = true) : R w' F' ι' v x := by
  induction h with
  | pr h =>
    cases h with
    | bool b => exact .pr (.bool b)
    | int k n => exact .pr (.int k n)
    | str s => exact .pr (.str s)
    | nilp => exact .pr .nilp
    | nilf => exact .pr .nilf
    | fn f => simp [V.flat] at hf
    | sl => simp [V.flat] at hf
  | agg cs xs hs h ih => exact .agg cs xs hs (fun j v x h1 h2 => ih j v x h1 h2 (flatAll_get (by simpa [V.flat] using hf) h1))
  | tup cs xs hs h ih => exact .tup cs xs hs (fun j v x h1 h2 => ih j v x h1 h2 (flatAll_get (by simpa [V.flat] using hf) h1))
  | undef => simp [V.flat] at hf
  | no => simp [V.flat] at hf
  | ptr => simp [V.flat] at hf
  | rp => simp [V.flat] at hf
  | ms => simp [V.flat] at hf
  | fn => simp [V.flat] at hf

theorem R.under0 {w : World} {F : Nat → Nat → Prop} {ι : Places} {v : V} {x : Value} (h : R w F ι v x) (hf : v.under 0 = true) : R w (fun _ _ => False) [] v x := by
  induction h with
  | pr h => exact .pr (h.mono fun b o y h1 _ => ⟨h1, fun h => h⟩)
  | agg cs xs hs h ih => exact .agg cs xs hs (fun j v x h1 h2 => ih j v x h1 h2 (underAll_get (by simpa [V.under] using hf) h1))
  | tup cs xs hs h ih => exact .tup cs xs hs (fun j v x h1 h2 => ih j v x h1 h2 (underAll_get (by simpa [V.under] using hf) h1))
  | undef x => exact .undef x
  | no => exact .no
  | ptr => simp [V.under] at hf
  | rp row off b base vals hc hr => exact .rp row off b base vals (fun j v h => ⟨(hc j v h).1, fun h => h⟩) (fun j v h => (hr j v h).mono fun b o y h1 _ => ⟨h1, fun h => h⟩)
  | ms => simp [V.under] at hf
  | fn f l m xs ys hs ht h h' ih ih' =>
    simp only [V.under, Bool.and_eq_true] at hf
    exact .fn f l m xs ys hs ht (fun j v x h1 h2 => ih j v x h1 h2 (underAll_get hf.1 h1)) (fun j v x h1 h2 => ih' j v x h1 h2 (underAll_get hf.2 h1))

theorem foot_none : foot (fun _ => none) = fun _ _ => False := by
  funext b o
  exact propext ⟨fun ⟨_, _, h, _⟩ => (by cases h), fun h => h.elim⟩

theorem calm_call (s : StA nt φ H ρ ι a w [] []) {f : Nat} {vs : List V} {xs : Array Value} {r : V} {H' : Heap} (hc : RealCall P f vs [] r H') (hl : xs.size = vs.length)
    (hx : ∀ (j : Nat) (v : V) (y : Value), vs[j]? = some v → xs[j]? = some y → R w (foot ρ) ι v y) (hu : V.underAll 0 vs = true) (hr : r.flat = true) :
    Calls P f xs w fun e w' => ∃ x, e = .returned x ∧ After nt φ H r ρ ι a w x w' := by
  refine (hc.2 w (fun _ => none) [] xs ⟨rfl, fun i vs h => by simp at h, fun _ _ => ⟨rfl, fun _ => rfl⟩, fun _ _ _ _ _ => rfl⟩ ⟨fun _ _ _ _ _ h => (by cases h), fun _ _ _ h => (by cases h)⟩ hl
    (fun j v x hv hy => ?_) (fun _ _ => rfl) (fun _ => rfl)).mono ?_
  · rw [foot_none]; exact ((hx j v x hv hy).under0 (underAll_get hu hv)).RL
  · rintro e w' ⟨x, ρ', ι', rfl, _, _, hR, _, _, g⟩
    have hR' : R w' (foot ρ') ι' r x := by
      have : ∀ k rows, r ≠ .own k rows := by rintro k rows rfl; simp [V.flat] at hr
      exact ((RL_other this).1 hR).1
    have kp : Kp (fun _ _ => False) w w' := by have := g.kp; rwa [foot_none] at this
    obtain ⟨ρ2, s2, g2⟩ := s.fresh (w' := w') kp none (fun h => by cases h) (v := r) (x := x) (fun F' _ => (hR'.flat hr).RL)
    exact ⟨x, rfl, ρ2, ι, s2, g2⟩

theorem takeX_noOwn {x : AX} (h : noOwn (ev φ x) = true) : takeX φ x = (ev φ x, φ) := by
  unfold takeX
  cases x with
  | t n =>
    simp only [ev] at h ⊢
    split <;> simp_all [noOwn]
  | c v =>
    simp only [ev] at h ⊢

theorem calm_same {op : AOp} (hc : op.calm = true) {v : V} {φ' : Fr} {H' : Heap} (h : stepA call φ H op = some (v, φ', H')) : φ' = φ ∧ H' = H := by
  cases op <;> simp only [AOp.calm, Bool.false_eq_true] at hc <;> simp only [stepA] at h <;> (repeat' (split at h)) <;>
    first
      | (simp only [Option.some.injEq, Prod.mk.injEq] at h; exact ⟨h.2.1.symm, h.2.2.symm⟩)
      | (simp only [Option.map_eq_some_iff, Prod.mk.injEq] at h; obtain ⟨_, _, _, h1, h2⟩ := h; exact ⟨h1.symm, h2.symm⟩)
      | (cases h; done)
      | (simp_all; done)

theorem chkOp_call {op : Op} {f : Nat} {args : List AX} (h : chkOp P op (.call f args) = true) : ∃ Xs ts, op = .call { callee := .value (.func f), args := Xs, argTypes := ts } ∧ chkXs Xs.toList args = true := by
  simp only [chkOp] at h
  split at h <;> try cases h
  simp only [Bool.and_eq_true, beq_iff_eq] at h
  obtain ⟨rfl, h2⟩ := h
  exact ⟨_, _, rfl, h2⟩

theorem chkOp_callv {op : Op} {fv : AX} {args : List AX} (h : chkOp P op (.callv fv args) = true) : ∃ F Xs ts, op = .call { callee := .value F, args := Xs, argTypes := ts } ∧ chkX F fv = true ∧ chkXs Xs.toList args = true := by
  simp only [chkOp] at h
  split at h <;> try cases h
  simp only [Bool.and_eq_true] at h
  exact ⟨_, _, _, rfl, h.1, h.2⟩

theorem chkXs_length : ∀ {Xs : List Operand} {xs : List AX}, chkXs Xs xs = true → Xs.length = xs.length
  | [], [], _ => rfl
  | [], _ :: _, h => by simp [chkXs] at h
  | _ :: _, [], h => by simp [chkXs] at h
  | _ :: Xs, _ :: xs, h => by
    simp only [chkXs, Bool.and_eq_true] at h
    simp [chkXs_length h.2]

theorem chkXs_get : ∀ {Xs : List Operand} {xs : List AX} {j : Nat} {X : Operand} {x : AX}, chkXs Xs xs = true → Xs[j]? = some X → xs[j]? = some x → chkX X x = true
  | [], _, _, _, _, _, h, _ => by simp at h
  | _ :: _, [], _, _, _, _, _, h => by simp at h
  | _ :: _, _ :: _, 0, _, _, h, h1, h2 => by
    simp only [chkXs, Bool.and_eq_true] at h
    simp at h1 h2; subst h1 h2; exact h.1
  | _ :: Xs, _ :: xs, j + 1, _, _, h, h1, h2 => by
    simp only [chkXs, Bool.and_eq_true] at h
    exact chkXs_get h.2 (by simpa using h1) (by simpa using h2)

theorem args_R (s : StA nt φ H ρ ι a w [] []) {Xs : Array Operand} {xs : List AX} (hx : chkXs Xs.toList xs = true) (j : Nat) (v : V) (y : Value) (h1 : (xs.map (rd φ))[j]? = some v) (h2 : (Xs.map a.eval)[j]? = some y) : R w (foot ρ) ι v y := by
  rw [List.getElem?_map, Option.map_eq_some_iff] at h1
  rw [Array.getElem?_map, Option.map_eq_some_iff] at h2
  obtain ⟨x, h3, rfl⟩ := h1
  obtain ⟨X, h4, rfl⟩ := h2
  exact rd_ok s (chkXs_get hx (by simpa using h4) h3)

/-- A calm operation leaves frame and memory, and gives its value. -/
theorem calm_sound (hcall : CallOK P call) (s : StA nt φ H ρ ι a w [] []) (ao : AOp) (hc : chkOp P o.op ao = true) (hs : stepCalm call φ H ao = some v) : Runs P o a w (After nt φ H v ρ ι a w) := by
  have gen : ao.calm = true → (stepA call φ H ao).map (fun r => r.1) = some v → Runs P o a w (After nt φ H v ρ ι a w) := by
    intro h1 h2
    rw [Option.map_eq_some_iff] at h2
    obtain ⟨⟨v', φ', H'⟩, h3, rfl⟩ := h2
    obtain ⟨rfl, rfl⟩ := calm_same h1 h3
    exact op_sound hcall s ao hc h3
  cases ao with
  | tk x =>
    simp only [stepCalm] at hs
    split at hs <;> try cases hs
    rename_i hn
    refine op_sound hcall s (.tk x) hc ?_
    simp only [stepA, takeX_noOwn hn]
  | call f args =>
    simp only [stepCalm, callCalm] at hs
    split at hs <;> try cases hs
    rename_i hu
    split at hs <;> try cases hs
    rename_i r H' hr
    split at hs <;> try cases hs
    rename_i hfl
    obtain ⟨Xs, ts, ho, hx⟩ := chkOp_call hc
    have hcl := hcall _ _ _ _ _ hr
    have hC := calm_call (xs := Xs.map a.eval) s hcl (by have := chkXs_length hx; simpa using this) (args_R s hx) hu hfl
    refine .inr (.inr ⟨f, Xs.map a.eval, w, ?_, hC⟩)
    have := callable_ok (w := w) hcl.1 (Xs.map a.eval)
    simp only [execOp, ho, resolve, Act.eval, Deferred.ofValue, Sem.run_bind, Sem.run_pure, Result.andThen, invoke, Array.empty_append, Array.append_empty]
    exact this
  | callv fv args =>
    simp only [stepCalm] at hs
    split at hs <;> try cases hs
    rename_i f first cap hf
    simp only [callCalm] at hs
    split at hs <;> try cases hs
    rename_i hu
    split at hs <;> try cases hs
    rename_i r H' hr
    split at hs <;> try cases hs
    rename_i hfl
    obtain ⟨F, Xs, ts, ho, hF, hx⟩ := chkOp_callv hc
    have hR := rd_ok s hF
    unfold fnParts at hf
    split at hf
    · rename_i f' l m e
      simp only [Option.some.injEq, Prod.mk.injEq] at hf
      obtain ⟨rfl, rfl, rfl⟩ := hf
      rw [e] at hR
      obtain ⟨fs, cs, eF, q1, q2, q3, q4⟩ := hR.fn_inv
      have hcl := hcall _ _ _ _ _ hr
      have hlen := chkXs_length hx
      have hC := calm_call (xs := fs ++ Xs.map a.eval ++ cs) s hcl (by simp at hlen ⊢; omega) (fun j v y h1 h2 => ?_) hu hfl
      · refine .inr (.inr ⟨f', fs ++ Xs.map a.eval ++ cs, w, ?_, hC⟩)
        have := callable_ok (w := w) hcl.1 (fs ++ Xs.map a.eval ++ cs)
        simp only [execOp, ho, resolve, eF, Deferred.ofValue, Sem.run_bind, Sem.run_pure, Result.andThen, invoke]
        exact this
      · simp at hlen
        by_cases hj1 : j < l.length
        · rw [List.append_assoc, List.getElem?_append_left hj1] at h1
          rw [Array.append_assoc, Array.getElem?_append_left (by omega)] at h2
          exact q3 j v y h1 h2
        · by_cases hj2 : j < l.length + args.length
          · rw [List.append_assoc, List.getElem?_append_right (by omega), List.getElem?_append_left (by simp; omega)] at h1
            rw [Array.append_assoc, Array.getElem?_append_right (by omega), Array.getElem?_append_left (by simp; omega)] at h2
            exact args_R s hx (j - l.length) v y h1 (by rw [q1] at h2; exact h2)
          · rw [List.append_assoc, List.getElem?_append_right (by omega), List.getElem?_append_right (by simp; omega)] at h1
            rw [Array.append_assoc, Array.getElem?_append_right (by omega), Array.getElem?_append_right (by simp; omega)] at h2
            refine q4 _ v y h1 ?_
            rw [← h2]; congr 1; simp; omega
    · cases hf
  | _ =>
    simp only [stepCalm] at hs
    split at hs
    · exact gen ‹_› hs
    · cases hs

theorem chkOps_length : ∀ {ops : Array Oper} {l : List Oper} {al : List AOper}, chkOps P nt ops l al = true → l.length = al.length
  | _, [], [], _ => rfl
  | _, [], _ :: _, h => by simp [chkOps] at h
  | _, _ :: _, [], h => by simp [chkOps] at h
  | _, _ :: l, _ :: al, h => by
    simp only [chkOps, Bool.and_eq_true] at h
    simp [chkOps_length h.2]

theorem chkOps_get : ∀ {ops : Array Oper} {l : List Oper} {al : List AOper} {i : Nat} {o : Oper} {ao : AOper}, chkOps P nt ops l al = true → l[i]? = some o → al[i]? = some ao → chkOper P nt ops o ao = true
  | _, [], _, _, _, _, _, h, _ => by simp at h
  | _, _ :: _, [], _, _, _, _, _, h => by simp at h
  | _, _ :: _, _ :: _, 0, _, _, h, h1, h2 => by
    simp only [chkOps, Bool.and_eq_true] at h
    simp at h1 h2; subst h1 h2; exact h.1
  | _, _ :: l, _ :: al, i + 1, _, _, h, h1, h2 => by
    simp only [chkOps, Bool.and_eq_true] at h
    exact chkOps_get h.2 (by simpa using h1) (by simpa using h2)

theorem chkOps_drop : ∀ {ops : Array Oper} (n : Nat) {l : List Oper} {al : List AOper}, chkOps P nt ops l al = true → chkOps P nt ops (l.drop n) (al.drop n) = true
  | _, 0, _, _, h => h
  | _, n + 1, [], [], h => rfl
  | _, n + 1, [], _ :: _, h => by simp [chkOps] at h
  | _, n + 1, _ :: _, [], h => by simp [chkOps] at h
  | _, n + 1, _ :: l, _ :: al, h => by
    simp only [chkOps, Bool.and_eq_true] at h
    exact chkOps_drop n h.2

theorem count_set (p q : Nat → Bool) (i : Nat) (hp : p i = true) (hq : q i = false) (h : ∀ j, j ≠ i → q j = p j) : ∀ n, i < n → (List.range n).countP q + 1 = (List.range n).countP p := by
  have low : ∀ n, n ≤ i → (List.range n).countP q = (List.range n).countP p := by
    intro n hn
    refine List.countP_congr fun j hj => ?_
    rw [h j (by have := List.mem_range.1 hj; omega)]
  intro n
  induction n with
  | zero => intro h; omega
  | succ n ih =>
    intro hi
    rw [List.range_succ, List.countP_append, List.countP_append]
    by_cases hn : i = n
    · subst hn
      rw [low i (Nat.le_refl _)]
      simp [hp, hq]
    · have := ih (by omega)
      simp only [List.countP_singleton, h n (fun e => hn e.symm)]
      omega

theorem apart_l {x y : AOper} (h : x.apart y = true) {s : Nat} (hd : x.d = some s) : s ∉ y.slots := by
  unfold AOper.apart at h
  rw [hd] at h
  intro hs
  split at h <;> simp_all

theorem apart_r {x y : AOper} (h : x.apart y = true) {s : Nat} (hd : y.d = some s) : s ∉ x.slots := by
  unfold AOper.apart at h
  rw [hd] at h
  intro hs
  split at h <;> simp_all

theorem apart_d {x y : AOper} (h : x.apart y = true) {s : Nat} (hd : x.d = some s) : y.d ≠ some s := by
  unfold AOper.apart at h
  intro hs
  rw [hd, hs] at h
  simp at h

section
variable {ops : Array Oper} {al : List AOper} {n : Nat}

theorem headB_pair (h : headB ops al n = true) {i j : Nat} (hij : i < j) (hj : j < n) {x y : AOper} (hx : al[i]? = some x) (hy : al[j]? = some y) : Region.waitsFor .any ops j i = true ∨ x.apart y = true := by
  unfold headB at h
  have h1 := List.all_eq_true.1 h i (List.mem_range.2 (by omega))
  simp only [Bool.and_eq_true] at h1
  have h2 := List.all_eq_true.1 h1.2 j (List.mem_range.2 hj)
  simp only [Bool.or_eq_true, decide_eq_true_eq, hx, hy, Option.map_some, Option.bind_some, Option.getD_some] at h2
  rcases h2 with (h2 | h2) | h2
  · omega
  · exact .inl h2
  · exact .inr h2

theorem headB_after (h : headB ops al n = true) {i : Nat} (hi : i < n) {o : Oper} (ho : ops[i]? = some o) : ∀ e ∈ o.after, Region.binds .any e = true → e.on < i := by
  unfold headB at h
  have h1 := List.all_eq_true.1 h i (List.mem_range.2 hi)
  simp only [Bool.and_eq_true, ho, Option.map_some, Option.getD_some] at h1
  intro e he hb
  have h2 := Array.all_eq_true_iff_forall_mem.1 h1.1 e he
  simp only [Bool.or_eq_true, Bool.not_eq_true', decide_eq_true_eq, hb] at h2
  rcases h2 with h2 | h2
  · cases h2
  · exact h2

/-- The writers of a slot ahead of a ready operation that is not apart from them are done, those behind it are not. -/
theorem done_iff (hB : headB ops al n = true) {listed : Array Bool} (inv : HeadInv .any ops n listed) {i : Nat} (hr : i ∈ Region.ready .any ops listed) (hi : i < n) {x : AOper} (hx : al[i]? = some x)
    {j : Nat} {y : AOper} (hj : j < n) (hy : al[j]? = some y) (hij : j ≠ i) (hl : ¬ y.apart x = true) (hg : ¬ x.apart y = true) : listed.getD j false = decide (j < i) := by
  obtain ⟨hun, o, ho, hall⟩ := mem_ready.1 hr
  rcases Nat.lt_or_ge j i with h | h
  · rw [decide_eq_true h]
    rcases headB_pair hB h hi hy hx with h1 | h1
    · obtain ⟨o', ho', e, he, hb, hon⟩ := Region.waitsFor_spec h1
      have : o' = o := Option.some.inj (ho'.symm.trans ho)
      subst this
      rw [← hon]; exact hall e he hb
    · exact absurd h1 hl
  · rw [decide_eq_false (by omega)]
    rcases headB_pair hB (by omega : i < j) hj hx hy with h1 | h1
    · obtain ⟨o', ho', e, he, hb, hon⟩ := Region.waitsFor_spec h1
      cases hd : listed.getD j false with
      | false => rfl
      | true =>
        have := inv.closed j o' ho' hd e he hb
        rw [hon, getD_both hun] at this; cases this
    · exact absurd h1 hg

theorem take_get {l : List AOper} {n j : Nat} {o : AOper} (h : (l.take n)[j]? = some o) : j < n ∧ l[j]? = some o := by
  rw [List.getElem?_take] at h
  split at h
  · exact ⟨‹_›, h⟩
  · cases h

variable {φ0 : Fr} {vs : List V}

theorem head_step (hB : headB ops al n = true) (hcall : CallOK P call) (hc : chkOps P nt ops ops.toList al = true) (hn : n ≤ ops.size) (hvs : vs.length = n)
    (hv : ∀ i o v, (al.take n)[i]? = some o → vs[i]? = some v → stepOC call o (putsD φ0 (al.take n) vs (fun j => decide (j < i)) 0) H = some v)
    {listed : Array Bool} (inv : HeadInv .any ops n listed) {i : Nat} (hr : i ∈ Region.ready .any ops listed) (hi : i < n) (s : StA nt (putsD φ0 (al.take n) vs (fun j => listed.getD j false) 0) H ρ ι a w [] [])
    {Q : Exit → Act → World → Prop} {K : Act → World → Prop} (hK : ∀ a' w' ρ' ι', StA nt (putsD φ0 (al.take n) vs (fun j => (listed.setIfInBounds i true).getD j false) 0) H ρ' ι' a' w' [] [] → Goes ρ ι w ρ' ι' w' → K a' w') :
    wpOp P ops Q i K a w := by
  obtain ⟨hun, o, ho, hall⟩ := mem_ready.1 hr
  have hlen := chkOps_length hc
  simp only [Array.length_toList] at hlen
  have hil : i < al.length := by omega
  obtain ⟨x, hx⟩ : ∃ x, al[i]? = some x := ⟨al[i], List.getElem?_eq_getElem hil⟩
  obtain ⟨v, hvi⟩ : ∃ v, vs[i]? = some v := ⟨vs[i], List.getElem?_eq_getElem (by omega)⟩
  have hxt : (al.take n)[i]? = some x := by rw [List.getElem?_take, if_pos hi]; exact hx
  have hchk := chkOps_get hc (by simpa using ho) hx
  simp only [chkOper, Bool.and_eq_true, beq_iff_eq] at hchk
  obtain ⟨⟨⟨hd, hdn⟩, hg⟩, hop⟩ := hchk
  have hdlt : ∀ m, x.d = some m → m < nt := fun m hm => by rw [hm] at hdn; simpa [chkDst] using hdn
  have hDi : listed.getD i false = false := getD_both hun
  -- the operation sees what it would see in the text's order
  have hag : Agree (putsD φ0 (al.take n) vs (fun j => listed.getD j false) 0) (putsD φ0 (al.take n) vs (fun j => decide (j < i)) 0) x.slots := by
    intro q hq
    refine putsD_agree _ _ _ _ _ _ _ rfl (fun j y hj hyd => ?_)
    obtain ⟨hjn, hy⟩ := take_get hj
    rw [Nat.zero_add]
    by_cases hji : j = i
    · subst hji; rw [hDi, decide_eq_false (by omega)]
    · exact done_iff hB inv hr hi hx hjn hy hji (fun h => apart_l h hyd hq) (fun h => apart_r h hyd hq)
  have hst : stepOC call x (putsD φ0 (al.take n) vs (fun j => listed.getD j false) 0) H = some v := by
    rw [stepOC_cong hag]; exact hv i x v hxt hvi
  -- what the frame is then
  have hnext : ∀ q, Fr.get (Fr.put (putsD φ0 (al.take n) vs (fun j => listed.getD j false) 0) x.d v) q = Fr.get (putsD φ0 (al.take n) vs (fun j => (listed.setIfInBounds i true).getD j false) 0) q := by
    intro q
    have hself : (listed.setIfInBounds i true).getD i false = true := by
      have hlt : i < listed.size := by rw [inv.size]; omega
      simp [hlt]
    by_cases hq : x.d = some q
    · rw [hq, get_put_eq]
      have h1 := putsD_agree (s := q) (al.take n) vs (fun j => (listed.setIfInBounds i true).getD j false) (fun j => decide (j < 0 + i + 1)) 0 φ0 φ0 rfl (fun j y hj hyd => by
        obtain ⟨hjn, hy⟩ := take_get hj
        rw [Nat.zero_add]
        by_cases hji : j = i
        · subst hji; rw [hself, decide_eq_true (by omega)]
        · rw [getD_set_ne false (fun h => hji h.symm), done_iff hB inv hr hi hx hjn hy hji (fun h => apart_d h hyd hq) (fun h => apart_d h hq hyd)]
          by_cases hlt : j < i
          · rw [decide_eq_true hlt, decide_eq_true (by omega)]
          · rw [decide_eq_false hlt, decide_eq_false (by omega)])
      rw [h1, putsD_next (al.take n) vs i 0 φ0 x v hxt hvi, hq, get_put_eq]
    · rw [get_put_ne hq]
      refine putsD_agree _ _ _ _ _ _ _ rfl (fun j y hj hyd => ?_)
      obtain ⟨hjn, hy⟩ := take_get hj
      rw [Nat.zero_add]
      have hji : i ≠ j := by
        rintro rfl
        rw [hx] at hy
        cases hy
        exact hq hyd
      rw [getD_set_ne false hji]
  unfold wpOp
  rw [ho]
  dsimp only
  unfold stepOC at hst
  split at hst
  · rename_i hw
    have hwant := wanted_ok s hg hw
    have hrun := calm_sound hcall s x.op hop hst
    rw [if_pos hwant]
    refine .inl (hrun.wp ?_)
    rintro y w1 ⟨ρ1, ι1, s1, g1⟩
    obtain ⟨ρ2, s2, g2⟩ := s1.put x.d hdlt
    rw [hd]
    exact hK _ _ _ _ (s2.congr hnext) (g1.trans g2)
  · rename_i hw
    simp only [Option.some.injEq] at hst
    subst hst
    have hwant := wanted_ok s hg hw
    have s1 : StA nt _ H ρ ι a w [.no] [Go.undef] := s.value .no
    obtain ⟨ρ2, s2, g2⟩ := s1.put x.d hdlt
    rw [if_neg (by rw [hwant]; simp), hd]
    exact hK _ _ _ _ (s2.congr hnext) g2
  · cases hst

theorem head_sound (hB : headB ops al n = true) (hT : tailB ops n = true) (hcall : CallOK P call) (hc : chkOps P nt ops ops.toList al = true) (hn : n ≤ ops.size) (hvs : vs.length = n)
    (hv : ∀ i o v, (al.take n)[i]? = some o → vs[i]? = some v → stepOC call o (putsD φ0 (al.take n) vs (fun j => decide (j < i)) 0) H = some v) {φ1 : Fr} (h1 : putsD φ0 (al.take n) vs (fun _ => true) 0 = φ1)
    (h2 : runOps call (al.drop n) φ1 H = some (φ', H')) {Q : Exit → Act → World → Prop} :
    ∀ (f : Nat) (listed : Array Bool) (a : Act) (w : World) (ρ : Own) (ι : Places), HeadInv .any ops n listed → (List.range n).countP (fun i => !listed.getD i true) = f → StA nt (putsD φ0 (al.take n) vs (fun j => listed.getD j false) 0) H ρ ι a w [] [] →
      (∀ a' w' ρ' ι', StA nt φ' H' ρ' ι' a' w' [] [] → Goes ρ ι w ρ' ι' w' → Q .normal a' w') → wpAny P .any ops Q (f + (ops.size - n)) listed a w := by
  intro f
  induction f with
  | zero =>
    intro listed a w ρ ι inv hf s k
    have hall : ∀ i, i < n → listed.getD i false = true := by
      intro i hi
      have h3 := List.countP_eq_zero.1 hf i (List.mem_range.2 hi)
      simp only [Bool.not_eq_true', Bool.not_eq_false] at h3
      have hlt : i < listed.size := by rw [inv.size]; omega
      simp [hlt] at h3 ⊢
      exact h3
    have s1 : StA nt φ1 H ρ ι a w [] [] := s.congr (fun q => by
      rw [← h1]
      refine putsD_agree _ _ _ _ _ _ _ rfl (fun j y hj _ => ?_)
      rw [Nat.zero_add]; exact hall j (take_get hj).1)
    rw [Nat.zero_add]
    have hlen := chkOps_length hc
    simp only [Array.length_toList] at hlen
    have hdl : (ops.toList.drop n).length = ops.size - n := by simp
    have hw : wpList P ops Q (ops.toList.drop n) a w := ops_sound hcall _ _ _ _ _ _ _ _ (chkOps_drop n hc) h2 s1 k
    rw [← hdl]
    refine wpAny_of_seq (ops.toList.drop n) n listed a w (fun j => by simp) ?_ hw
    rw [hdl]
    unfold tailB at hT
    simp only [Bool.or_eq_true, beq_iff_eq, Bool.and_eq_true] at hT
    rcases hT with hT | hT
    · have h0 : ops.size - n = 0 := by omega
      rw [h0]
      simp only [Region.seqB, List.isEmpty_iff]
      refine List.eq_nil_iff_forall_not_mem.2 fun j hj => ?_
      obtain ⟨hun, o, ho, _⟩ := mem_ready.1 hj
      have hlt : j < ops.size := (Array.getElem?_eq_some_iff.1 ho).1
      have h3 := hall j (by omega)
      rw [getD_both hun] at h3; cases h3
    · have he : listed = Array.ofFn fun i : Fin ops.size => decide (i.1 < n) := by
        apply Array.ext
        · simp [inv.size]
        · intro i hi1 hi2
          simp only [Array.getElem_ofFn]
          by_cases hi : i < n
          · have h3 := hall i hi
            simp [hi1] at h3
            rw [h3, decide_eq_true hi]
          · have h3 := inv.tail i (by omega) (by rw [← inv.size]; exact hi1)
            simp [hi1] at h3
            rw [h3, decide_eq_false hi]
      rw [he]; exact hT.2
  | succ f ih =>
    intro listed a w ρ ι inv hf s k
    rw [show f + 1 + (ops.size - n) = (f + (ops.size - n)) + 1 by omega]
    -- the least that is not done
    have hex : ∃ i, i < n ∧ listed.getD i true = false := by
      apply Classical.byContradiction
      intro hne
      have : (List.range n).countP (fun i => !listed.getD i true) = 0 := by
        refine List.countP_eq_zero.2 fun i hi h => hne ⟨i, List.mem_range.1 hi, by simpa using h⟩
      omega
    have hmin : ∃ i, i < n ∧ listed.getD i true = false ∧ ∀ j, j < i → listed.getD j true = true := by
      obtain ⟨i0, hi0, hu0⟩ := hex
      induction i0 using Nat.strongRecOn with
      | _ i0 ih0 =>
        by_cases hb : ∃ j, j < i0 ∧ listed.getD j true = false
        · obtain ⟨j, hj, hu⟩ := hb
          exact ih0 j hj (by omega) hu
        · refine ⟨i0, hi0, hu0, fun j hj => ?_⟩
          cases hh : listed.getD j true with
          | true => rfl
          | false => exact (hb ⟨j, hj, hh⟩).elim
    obtain ⟨i0, hi0, hu0, hlow⟩ := hmin
    have hr0 : i0 ∈ Region.ready .any ops listed := by
      have hlt : i0 < ops.size := by omega
      obtain ⟨o, ho⟩ : ∃ o, ops[i0]? = some o := ⟨ops[i0], Array.getElem?_eq_getElem hlt⟩
      refine mem_ready.2 ⟨hu0, o, ho, fun e he hb => ?_⟩
      have h3 := headB_after hB hi0 ho e he hb
      have h4 := hlow e.on h3
      have hlt : e.on < listed.size := by rw [inv.size]; omega
      simp [hlt] at h4 ⊢
      exact h4
    refine ⟨fun h0 => (by rw [h0] at hr0; cases hr0), fun i hi => ?_⟩
    have hin : i < n := by
      rcases Nat.lt_or_ge i n with h | h
      · exact h
      · unfold tailB at hT
        simp only [Bool.or_eq_true, beq_iff_eq, Bool.and_eq_true, decide_eq_true_eq] at hT
        rcases hT with hT | hT
        · obtain ⟨_, o, ho, _⟩ := mem_ready.1 hi
          have := (Array.getElem?_eq_some_iff.1 ho).1
          omega
        · exact absurd hi (tail_waits hT.1.1.2 hT.1.2 hT.1.1.1 inv _ i0 rfl hi0 hu0 i h)
    refine head_step hB hcall hc hn hvs hv inv hi hin s (fun a' w' ρ' ι' s' g' => ?_)
    have hlt : i < listed.size := by rw [inv.size]; omega
    have hcount : (List.range n).countP (fun j => !(listed.setIfInBounds i true).getD j true) = f := by
      have hun := (mem_ready.1 hi).1
      have := count_set (fun j => !listed.getD j true) (fun j => !(listed.setIfInBounds i true).getD j true) i (by rw [hun]; rfl) (by simp [hlt]) (fun j hj => by rw [getD_set_ne true (fun h => hj h.symm)]) n hin
      omega
    exact ih _ a' w' ρ' ι' (inv.set hi hin) hcount s' (fun a2 w2 ρ2 ι2 s2 g2 => k a2 w2 ρ2 ι2 s2 (g'.trans g2))

end

/-- A drawn region does what the text's order does. -/
theorem drw_ok : ∀ nt call, CallOK P call → DrwOK P nt call := by
  intro nt call hcall n id ops al h fuel φ H ρ ι a w e φ' H' hx s Q k
  simp only [chkDrw, Bool.and_eq_true, decide_eq_true_eq] at h
  obtain ⟨⟨⟨⟨hm, hc⟩, hn⟩, hB⟩, hT⟩ := h
  unfold execC at hx
  split at hx <;> try cases hx
  rename_i φ1 H1 h1
  split at hx <;> try cases hx
  rename_i φ2 H2 h2
  obtain ⟨rfl, vs, hl, hp, hv⟩ := runCalm_vals _ _ h1
  have hlen := chkOps_length hc
  simp only [Array.length_toList] at hlen
  have hvs : vs.length = n := by rw [hl, List.length_take]; omega
  refine wp_region_any hm ?_
  -- the draw
  have k0 : Kp (fun _ _ => False) w { w with drawn := w.drawn + 1 } := kp_drew _ w
  have g0 : Goes ρ ι w ρ ι { w with drawn := w.drawn + 1 } := ⟨kp_false k0, fun _ _ h => h, fun l b q h => .inr ⟨l, q, h, Nat.le_refl _⟩, fun _ => rfl⟩
  have s0 : StA nt φ H1 ρ ι a { w with drawn := w.drawn + 1 } [] [] := s.go g0 (fun _ => rfl) (fun _ => rfl) (s.mem.kp k0 (fun _ => rfl) (fun _ _ => rfl) g0) ⟨s.sep.one, s.sep.here⟩
  have hsize : ops.size = n + (ops.size - n) := by omega
  have inv0 : HeadInv .any ops n (Array.replicate ops.size false) :=
    ⟨by simp, fun j oj _ hl => (by rw [getD_replicate_false] at hl; cases hl), fun t _ ht => getD_in (by simpa using ht) (getD_replicate_false _ _)⟩
  have hcount : (List.range n).countP (fun i => !(Array.replicate ops.size false).getD i true) = n := by
    have : (List.range n).countP (fun i => !(Array.replicate ops.size false).getD i true) = (List.range n).length := by
      refine List.countP_eq_length.2 fun i hi => ?_
      have := List.mem_range.1 hi
      rw [getD_in (by simp; omega) (getD_replicate_false _ _)]; rfl
    simpa using this
  have H0 := head_sound (P := P) (nt := nt) (Q := Q) hB hT hcall hc hn hvs hv hp h2 n (Array.replicate ops.size false) a { w with drawn := w.drawn + 1 } ρ ι inv0 hcount (s0.congr fun q => by
    have : (fun j => (Array.replicate ops.size false).getD j false) = fun _ => false := by funext j; exact getD_replicate_false _ _
    rw [this, putsD_none]) (fun a' w' ρ' ι' s' g' => k a' w' ρ' ι' s' (g0.trans g'))
  rw [← hsize] at H0
  exact H0

end
end Go.AM
