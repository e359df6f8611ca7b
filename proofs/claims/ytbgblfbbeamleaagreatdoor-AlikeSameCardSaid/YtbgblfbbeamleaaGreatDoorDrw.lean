/-
  Drawn regions: whatever order the machine draws, the outcome is that of the text's order, because operations that are not independent keep their order.
-/
import Derived.Test.YtbgblfbbeamleaaGreatDoorTail
set_option linter.unusedVariables false
set_option linter.unusedSimpArgs false
namespace Go.AM

section
variable {P : Program} {E : LblP} {nt : Cx} {φ φ' ψ : Fr} {H H' : Heap} {ρ : Own} {ι : Places} {a : Act} {w : World} {o : Oper} {call : CallF} {v : V} {ops : Array Oper} {al : List AOper}

theorem StA.congr (s : StA E nt φ H ρ ι a w [] []) (h : ∀ q, Fr.get φ q = Fr.get ψ q) : StA E nt ψ H ρ ι a w [] [] :=
  ⟨s.sz, s.df, fun q => by rw [← h]; exact s.sl q, s.al, s.ar, s.an, s.mem, s.sep, s.wd⟩

/-- Whatever a slot refers to lies below the memory's end. -/
theorem low_here (s : StA E nt φ H ρ ι a w [] []) (y : AOper) : lowOK φ H y := by
  have key : ∀ n, (rd φ (.t n)).under H.length = true := fun n => by
    have h := (s.sl n).under
    rw [s.mem.len] at h
    unfold rd
    simp only [ev]
    revert h
    cases Fr.get φ n <;> exact id
  unfold lowOK
  split <;> first | exact key _ | trivial

theorem chkOps_length : ∀ {ops : Array Oper} {l : List Oper} {al : List AOper}, chkOps P nt.w nt.n ops l al = true → l.length = al.length
  | _, [], [], _ => rfl
  | _, [], _ :: _, h => by simp [chkOps] at h
  | _, _ :: _, [], h => by simp [chkOps] at h
  | _, _ :: l, _ :: al, h => by
    simp only [chkOps, Bool.and_eq_true] at h
    simp [chkOps_length h.2]

theorem chkOps_get : ∀ {ops : Array Oper} {l : List Oper} {al : List AOper} {i : Nat} {o : Oper} {ao : AOper}, chkOps P nt.w nt.n ops l al = true → l[i]? = some o → al[i]? = some ao → chkOper P nt.w nt.n ops o ao = true
  | _, [], _, _, _, _, _, h, _ => by simp at h
  | _, _ :: _, [], _, _, _, _, _, h => by simp at h
  | _, _ :: _, _ :: _, 0, _, _, h, h1, h2 => by
    simp only [chkOps, Bool.and_eq_true] at h
    simp at h1 h2; subst h1 h2; exact h.1
  | _, _ :: l, _ :: al, i + 1, _, _, h, h1, h2 => by
    simp only [chkOps, Bool.and_eq_true] at h
    exact chkOps_get h.2 (by simpa using h1) (by simpa using h2)

inductive Waits (ops : Array Oper) : Nat → Nat → Prop
  | direct {j : Nat} {o : Oper} {e : Edge} (ho : ops[j]? = some o) (he : e ∈ o.after) (hb : Region.binds .any e = true) : Waits ops j e.on
  | trans {j k i : Nat} (h : Waits ops j k) (h' : Waits ops k i) : Waits ops j i

theorem waitB_ok {cert : List (List Nat)} (hC : certB ops cert = true) : ∀ (j i : Nat), j < ops.size → waitB ops cert j i = true → Waits ops j i := by
  intro j
  induction j using Nat.strongRecOn with
  | _ j ih =>
    intro i hj h
    unfold waitB at h
    rw [Bool.or_eq_true] at h
    rcases h with h | h
    · cases ho : ops[j]? with
      | none => rw [ho] at h; simp at h
      | some o =>
        rw [ho] at h
        simp only [Option.map_some, Option.getD_some, List.any_eq_true, Bool.and_eq_true, beq_iff_eq] at h
        obtain ⟨e, he, hb, rfl⟩ := h
        exact .direct ho (by simpa using he) hb
    · have hm : i ∈ cert.getD j [] := by simpa using h
      obtain ⟨o, ho⟩ : ∃ o, ops[j]? = some o := ⟨ops[j], Array.getElem?_eq_getElem hj⟩
      have hC2 := hC
      unfold certB at hC2
      have h1 := List.all_eq_true.1 hC2 j (List.mem_range.2 hj)
      have h2 := List.all_eq_true.1 h1 i hm
      rw [ho] at h2
      simp only [Option.map_some, Option.getD_some, List.any_eq_true, Bool.and_eq_true, decide_eq_true_eq] at h2
      obtain ⟨e, he, ⟨hb, hlt⟩, hw⟩ := h2
      exact .trans (.direct ho (by simpa using he) hb) (ih _ hlt i (by omega) hw)

theorem depM_pair {cert : List (List Nat)} (hC : certB ops cert = true) {m : Nat} (h : depM ops cert al m = true) {i j : Nat} (hij : i < j) (him : i < m) (hj : j < ops.size) : Waits ops j i ∨ (j < m ∧ (al.getD i default).indep (al.getD j default) = true) := by
  unfold depM at h
  have h1 := List.all_eq_true.1 h j (List.mem_range.2 hj)
  have h2 := List.all_eq_true.1 h1 i (List.mem_range.2 hij)
  simp only [Bool.or_eq_true, Bool.and_eq_true, decide_eq_true_eq] at h2
  rcases h2 with (h2 | h2) | h2
  · omega
  · exact .inr h2
  · exact .inl (waitB_ok hC _ _ hj h2)

theorem afterB_ok (h : afterB ops = true) {i : Nat} {o : Oper} (ho : ops[i]? = some o) : ∀ e ∈ o.after, Region.binds .any e = true → e.on < i := by
  unfold afterB at h
  have h1 := List.all_eq_true.1 h i (List.mem_range.2 (Array.getElem?_eq_some_iff.1 ho).1)
  simp only [ho, Option.map_some, Option.getD_some] at h1
  intro e he hb
  have h2 := List.all_eq_true.1 h1 e (by simpa using he)
  simp only [Bool.or_eq_true, Bool.not_eq_true', decide_eq_true_eq, hb] at h2
  rcases h2 with h2 | h2
  · cases h2
  · exact h2

/-- Whatever an operation that is done or ready waits for is done. -/
theorem waits_done {listed : Array Bool} (cl : ∀ j, listed.getD j false = true → ∀ o, ops[j]? = some o → ∀ e ∈ o.after, Region.binds .any e = true → listed.getD e.on false = true) :
    ∀ {j i : Nat}, Waits ops j i → (listed.getD j false = true ∨ j ∈ Region.ready .any ops listed) → listed.getD i false = true := by
  intro j i h
  induction h with
  | direct ho he hb =>
    rintro (h | h)
    · exact cl _ h _ ho _ he hb
    · obtain ⟨_, o, ho', hall⟩ := mem_ready.1 h
      rw [ho] at ho'
      cases ho'
      exact hall _ he hb
  | trans h h' ih ih' => exact fun hj => ih' (.inl (ih hj))

theorem drw_any (hcall : CallOK E P call) (hc : chkOps P nt.w nt.n ops ops.toList al = true) (hA : afterB ops = true) {cert : List (List Nat)} (hC : certB ops cert = true) {m t : Nat} (hmt : m + t = ops.size) (hD : depM ops cert al m = true) {Q : Exit → Act → World → Prop} {φe : Fr} {He : Heap}
    (htail : ∀ (listed : Array Bool) (φ : Fr) (H : Heap) (ρ : Own) (ι : Places) (a : Act) (w : World), listed.size = ops.size → (∀ i, i < m → listed.getD i false = true) → (∀ i, m ≤ i → listed.getD i false = false) →
      (∃ φ1, runOps call (al.drop m) φ H = some (φ1, He) ∧ ∀ q, Fr.get φ1 q = Fr.get φe q) → StA E nt φ H ρ ι a w [] [] → (∀ a' w' ρ' ι', StA E nt φe He ρ' ι' a' w' [] [] → Goes ρ ι w ρ' ι' w' → Q .normal a' w') → wpAnyIn (wideR nt.rd) 0 P .any ops Q t listed a w) :
    ∀ (f : Nat) (rem : List Nat) (listed : Array Bool) (φ : Fr) (H : Heap) (ρ : Own) (ι : Places) (a : Act) (w : World), rem.length = f → rem.Pairwise (· < ·) → listed.size = ops.size → (∀ i, i ∈ rem ↔ i < m ∧ listed.getD i false = false) → (∀ i, m ≤ i → listed.getD i false = false) →
      (∀ j, listed.getD j false = true → ∀ o, ops[j]? = some o → ∀ e ∈ o.after, Region.binds .any e = true → listed.getD e.on false = true) →
      (∃ φ1, runOps call ((rem.map fun i => al.getD i default) ++ al.drop m) φ H = some (φ1, He) ∧ ∀ q, Fr.get φ1 q = Fr.get φe q) → StA E nt φ H ρ ι a w [] [] →
      (∀ a' w' ρ' ι', StA E nt φe He ρ' ι' a' w' [] [] → Goes ρ ι w ρ' ι' w' → Q .normal a' w') → wpAnyIn (wideR nt.rd) 0 P .any ops Q (f + t) listed a w := by
  intro f
  induction f with
  | zero =>
    intro rem listed φ H ρ ι a w hf hpw hsz hrem hhi cl hrun s k
    have h0 : rem = [] := List.eq_nil_of_length_eq_zero hf
    subst h0
    rw [Nat.zero_add]
    refine htail listed φ H ρ ι a w hsz (fun i hi => ?_) hhi (by simpa using hrun) s k
    cases hq : listed.getD i false with
    | true => rfl
    | false => have := (hrem i).2 ⟨hi, hq⟩; simp at this
  | succ f ih =>
    intro rem listed φ H ρ ι a w hf hpw hsz hrem hhi cl hrun s k
    rw [show f + 1 + t = (f + t) + 1 by omega]
    refine ⟨fun h0 => ?_, fun i hi => ?_⟩
    · -- the least that is left is ready
      match rem, hf, hpw, hrem with
      | i0 :: rest, _, hpw, hrem =>
        obtain ⟨hlt, hu⟩ := (hrem i0).1 (by simp)
        obtain ⟨o, ho⟩ : ∃ o, ops[i0]? = some o := ⟨ops[i0], Array.getElem?_eq_getElem (by omega)⟩
        have : i0 ∈ Region.ready .any ops listed := by
          refine mem_ready.2 ⟨getD_in (by omega) hu, o, ho, fun e he hb => ?_⟩
          have hlow := afterB_ok hA ho e he hb
          cases hq : listed.getD e.on false with
          | true => rfl
          | false =>
            have h2 := (hrem e.on).2 ⟨by omega, hq⟩
            rcases List.mem_cons.1 h2 with h3 | h3
            · omega
            · have := List.rel_of_pairwise_cons hpw h3; omega
        rw [h0] at this; cases this
    · obtain ⟨hu, o, ho, hall⟩ := mem_ready.1 hi
      have hlt : i < ops.size := (Array.getElem?_eq_some_iff.1 ho).1
      have him : i < m := by
        rcases Nat.lt_or_ge i m with h | h
        · exact h
        · match rem, hf, hrem with
          | i0 :: rest, _, hrem =>
            obtain ⟨h1, h2⟩ := (hrem i0).1 (by simp)
            rcases depM_pair hC hD (show i0 < i by omega) h1 hlt with h3 | h3
            · have := waits_done cl h3 (.inr hi)
              rw [h2] at this; cases this
            · omega
      have hmem := (hrem i).2 ⟨him, getD_both hu⟩
      obtain ⟨l1, l2, rfl⟩ := List.append_of_mem hmem
      obtain ⟨hp1, hp2, hp3⟩ := List.pairwise_append.1 hpw
      have hlow : ∀ x ∈ l1, x < i := fun x hx => hp3 x hx i (by simp)
      have hhigh : ∀ x ∈ l2, i < x := fun x hx => List.rel_of_pairwise_cons hp2 hx
      have hind : ∀ x ∈ l1.map (fun i => al.getD i default), x.indep (al.getD i default) = true := by
        intro x hx
        obtain ⟨q, hq, rfl⟩ := List.mem_map.1 hx
        rcases depM_pair hC hD (hlow q hq) (by have := hlow q hq; omega) hlt with h | h
        · have h1 := waits_done cl h (.inr hi)
          have h2 := ((hrem q).1 (by simp [hq])).2
          rw [h1] at h2; cases h2
        · exact h.2
      obtain ⟨φ1, hr1, hr2⟩ := hrun
      rw [List.map_append, List.map_cons, List.append_assoc, List.cons_append] at hr1
      obtain ⟨φa, Ha, φb, h1, h2, h3⟩ := bubble hind (low_here s _) hr1
      have hlen := chkOps_length hc
      simp only [Array.length_toList] at hlen
      have hx : al[i]? = some (al.getD i default) := by
        rw [List.getD_eq_getElem?_getD, List.getElem?_eq_getElem (by omega)]; rfl
      have hchk := chkOps_get hc (by simpa using ho) hx
      simp only [chkOper, Bool.and_eq_true, beq_iff_eq] at hchk
      obtain ⟨⟨⟨⟨hd, hdn⟩, hg⟩, hwd⟩, hop⟩ := hchk
      have hdlt : ∀ m, (al.getD i default).d = some m → m < nt.n := fun m hm => by rw [hm] at hdn; simpa [chkDst] using hdn
      have hset : ∀ j, j ≠ i → (listed.setIfInBounds i true).getD j false = listed.getD j false := fun j hj => getD_set_ne false (fun h => hj h.symm)
      have hself : (listed.setIfInBounds i true).getD i false = true := by
        have : i < listed.size := by omega
        simp [this]
      have go : ∀ a' w' ρ' ι', StA E nt φa Ha ρ' ι' a' w' [] [] → Goes ρ ι w ρ' ι' w' → wpAnyIn (wideR nt.rd) 0 P .any ops Q (f + t) (listed.setIfInBounds i true) a' w' := by
        intro a' w' ρ' ι' s' g'
        refine ih (l1 ++ l2) _ φa Ha ρ' ι' a' w' (by simp at hf ⊢; omega) (List.pairwise_append.2 ⟨hp1, (List.pairwise_cons.1 hp2).2, fun x hx y hy => hp3 x hx y (by simp [hy])⟩) (by simpa using hsz) (fun q => ?_) (fun q hq => by rw [hset q (by omega)]; exact hhi q hq) (fun j hj o' ho' e he hb => ?_)
          ⟨φb, by rw [List.map_append, List.append_assoc]; exact h2, fun q => (h3 q).trans (hr2 q)⟩ s' (fun a2 w2 ρ2 ι2 s2 g2 => k a2 w2 ρ2 ι2 s2 (g'.trans g2))
        · by_cases hq : q = i
          · subst hq
            rw [hself]
            constructor
            · intro h
              rcases List.mem_append.1 h with h | h
              · have := hlow q h; omega
              · have := hhigh q h; omega
            · intro h; simp at h
          · rw [hset q hq, ← hrem q]
            simp [hq]
        · by_cases hji : j = i
          · subst hji
            rw [ho] at ho'
            cases ho'
            have h4 := hall e he hb
            by_cases hei : e.on = j
            · rw [hei]; exact hself
            · rw [hset _ hei]; exact h4
          · rw [hset j hji] at hj
            have h4 := cl j hj o' ho' e he hb
            by_cases hei : e.on = i
            · rw [hei]; exact hself
            · rw [hset _ hei]; exact h4
      unfold wpOpIn
      rw [ho]
      dsimp only
      unfold stepO at h1
      split at h1
      · rename_i hw
        split at h1 <;> try cases h1
        rename_i v φ2 H2 hstep
        have hwant := wanted_ok s hg hw
        have hrun := op_sound hcall s _ (wide_or hwd) hop hstep
        rw [if_pos hwant]
        refine hrun.wp nt.rd ?_
        rintro y w1 ⟨ρ1, ι1, s1, g1⟩
        obtain ⟨ρ2, s2, g2⟩ := s1.put _ hdlt
        rw [hd]
        exact go _ _ _ _ s2 (g1.trans g2)
      · rename_i hw
        simp only [Option.some.injEq, Prod.mk.injEq] at h1
        obtain ⟨rfl, rfl⟩ := h1
        have hwant := wanted_ok s hg hw
        have s1 : StA E nt _ _ ρ ι a w [.no] [Go.undef] := s.value .no
        obtain ⟨ρ2, s2, g2⟩ := s1.put _ hdlt
        rw [if_neg (by rw [hwant]; simp), hd]
        exact ⟨fun _ _ => trivial, go _ _ _ _ s2 g2⟩
      · cases h1

/-- A drawn region does what the text's order does. -/
theorem drw_ok {E : LblP} : ∀ nt call, CallOK E P call → DrwOK E P nt call := by
  intro nt call hcall id ops cert al h fuel φ H ρ ι a w e φ' H' hx s Q k
  simp only [chkDrw, Bool.and_eq_true, Bool.or_eq_true, decide_eq_true_eq] at h
  obtain ⟨⟨⟨⟨hm, hc⟩, hA⟩, hC⟩, hD⟩ := h
  unfold execC at hx
  split at hx <;> try cases hx
  rename_i h1
  have hlen := chkOps_length hc
  simp only [Array.length_toList] at hlen
  refine wpIn_region_any hm ?_
  -- the draw
  have k0 : Kp (fun _ _ => False) w { w with drawn := w.drawn + 1 } := kp_drew _ w
  have g0 : Goes ρ ι w ρ ι { w with drawn := w.drawn + 1 } := .of (kp_false k0) (fun _ _ h => h) (fun l b q hm h => .inr ⟨l, q, hm, h, Nat.le_refl _⟩) (fun _ => rfl) (fun _ _ _ => rfl)
  have s0 : StA E nt φ H ρ ι a { w with drawn := w.drawn + 1 } [] [] := s.go g0 (fun _ => rfl) (fun _ => rfl) (s.mem.kp s.sep k0 (fun _ => rfl) (fun _ _ => rfl) g0) ⟨s.sep.one, s.sep.here⟩
  have hal : ∀ m, m ≤ ops.size → (List.range m).map (fun i => al.getD i default) ++ al.drop m = al := by
    intro m hm
    apply List.ext_getElem?
    intro i
    by_cases hi : i < m
    · rw [List.getElem?_append_left (by simpa using hi), List.getElem?_map, List.getElem?_range hi, Option.map_some, List.getD_eq_getElem?_getD, List.getElem?_eq_getElem (by omega)]; rfl
    · rw [List.getElem?_append_right (by simp; omega), List.getElem?_drop]
      congr 1
      simp; omega
  have main : ∀ m t, m + t = ops.size → depM ops cert al m = true → (∀ (listed : Array Bool) (φ : Fr) (H : Heap) (ρ : Own) (ι : Places) (a : Act) (w : World), listed.size = ops.size → (∀ i, i < m → listed.getD i false = true) → (∀ i, m ≤ i → listed.getD i false = false) →
      (∃ φ1, runOps call (al.drop m) φ H = some (φ1, H') ∧ ∀ q, Fr.get φ1 q = Fr.get φ' q) → StA E nt φ H ρ ι a w [] [] → (∀ a' w' ρ' ι', StA E nt φ' H' ρ' ι' a' w' [] [] → Goes ρ ι w ρ' ι' w' → Q .normal a' w') → wpAnyIn (wideR nt.rd) 0 P .any ops Q t listed a w) →
      wpAnyIn (wideR nt.rd) 0 P .any ops Q ops.size (Array.replicate ops.size false) a { w with drawn := w.drawn + 1 } := by
    intro m t hmt hD htail
    have := drw_any hcall hc hA hC hmt hD htail m (List.range m) (Array.replicate ops.size false) φ H ρ ι a _ (by simp) List.pairwise_lt_range (by simp) (fun i => by rw [getD_replicate_false]; simp) (fun i _ => getD_replicate_false _ _) (fun j hj => by rw [getD_replicate_false] at hj; cases hj)
      ⟨_, by rw [hal m (by omega)]; exact h1, fun _ => rfl⟩ s0 (fun a' w' ρ' ι' s' g' => k a' w' ρ' ι' s' (g0.trans g'))
    rwa [hmt] at this
  rcases hD with hD | ⟨⟨h3, hT⟩, hD⟩
  · refine main ops.size 0 rfl hD (fun listed φ H ρ ι a w hsz hl hu hrun s k => ?_)
    obtain ⟨φ1, h2, h3⟩ := hrun
    rw [List.drop_eq_nil_of_le (by omega)] at h2
    simp only [runOps, Option.some.injEq, Prod.mk.injEq] at h2
    obtain ⟨rfl, rfl⟩ := h2
    refine ⟨List.eq_nil_iff_forall_not_mem.2 fun i hi => ?_, k a w ρ ι (s.congr h3) (.refl _ _ _)⟩
    obtain ⟨q1, q2⟩ := ready_un hi
    rw [hl i q1] at q2; cases q2
  · exact main (ops.size - 3) 3 (by omega) hD (fun listed φ H ρ ι a w hsz hl hu hrun s k =>
      tail3_sound hcall hT hc hlen.symm (fun i o ao ho hao => chkOps_get hc (by simpa using ho) hao) (fun i o ho => afterB_ok hA ho) hsz hl hu hrun s (fun s h => s.congr h) k)

end
end Go.AM
