/-
  A calm operation looks at its operands' slots alone; so operations of a head that are apart give the same values in any order.
-/
import Derived.Test.YtddhdalacanngaaAm
namespace Go.AM
set_option linter.unusedVariables false
set_option linter.unusedSimpArgs false

section
variable {φ ψ : Fr} {H : Heap} {call : CallF}

def Agree (φ ψ : Fr) (ss : List Nat) : Prop := ∀ s ∈ ss, Fr.get φ s = Fr.get ψ s

theorem ev_cong {x : AX} (h : Agree φ ψ x.slots) : ev φ x = ev ψ x := by
  cases x with
  | t n => exact h n (by simp [AX.slots])
  | c v => rfl

theorem args_cong {op : AOp} (h : Agree φ ψ (op.args.flatMap AX.slots)) : ∀ x ∈ op.args, ev φ x = ev ψ x := fun x hx =>
  ev_cong fun s hs => h s (List.mem_flatMap.2 ⟨x, hx, hs⟩)

theorem index_cong {x : AX} (h : rd φ x = rd ψ x) (n : Nat) : index φ x n = index ψ x n := by simp only [index, h]
theorem bound_cong {x : AX} (h : rd φ x = rd ψ x) (n : Nat) : bound φ x n = bound ψ x n := by simp only [bound, h]
theorem optBound_cong {x : Option AX} (h : ∀ y ∈ x.toList, rd φ y = rd ψ y) (d n : Nat) : optBound φ x d n = optBound ψ x d n := by
  cases x with
  | none => rfl
  | some y => exact bound_cong (h y (by simp)) n
theorem partsOf_cong : ∀ {ps : List (Nat × Nat × AX)}, (∀ x ∈ ps.map fun p => p.2.2, rd φ x = rd ψ x) → partsOf φ ps = partsOf ψ ps
  | [], _ => rfl
  | (a, b, x) :: ps, h => by
    have h1 := h x (by simp)
    have h2 := partsOf_cong (ps := ps) (fun y hy => h y (by simp only [List.map_cons, List.mem_cons]; exact .inr hy))
    simp only [partsOf, h1, h2]
theorem map_cong : ∀ {xs : List AX}, (∀ x ∈ xs, rd φ x = rd ψ x) → xs.map (rd φ) = xs.map (rd ψ)
  | [], _ => rfl
  | x :: xs, h => by simp only [List.map_cons, h x (by simp), map_cong (xs := xs) (fun y hy => h y (by simp [hy]))]

theorem step_cong {op : AOp} (hc : op.calm = true) (h : Agree φ ψ (op.args.flatMap AX.slots)) : (stepA call φ H op).map (fun r => r.1) = (stepA call ψ H op).map (fun r => r.1) := by
  have he := args_cong h
  have hr : ∀ x ∈ op.args, rd φ x = rd ψ x := fun x hx => by unfold rd; rw [he x hx]
  clear he h
  cases op with
  | mv x => simp only [stepA, hr x (by simp [AOp.args]), Option.map_some]
  | cs x => simp only [stepA, hr x (by simp [AOp.args])]; split <;> rfl
  | pick a b c => simp only [stepA, hr a (by simp [AOp.args]), hr b (by simp [AOp.args]), hr c (by simp [AOp.args])]; split <;> rfl
  | ia _ _ x y => simp only [stepA, hr x (by simp [AOp.args]), hr y (by simp [AOp.args])]; (repeat' split) <;> first | rfl | (simp [Function.comp_def])
  | ic _ x y => simp only [stepA, hr x (by simp [AOp.args]), hr y (by simp [AOp.args])]; (repeat' split) <;> first | rfl | (simp [Function.comp_def])
  | sop _ x y => simp only [stepA, hr x (by simp [AOp.args]), hr y (by simp [AOp.args])]; (repeat' split) <;> first | rfl | (simp [Function.comp_def])
  | eqb _ x y => simp only [stepA, hr x (by simp [AOp.args]), hr y (by simp [AOp.args])]; (repeat' split) <;> first | rfl | (simp [Function.comp_def])
  | eqa _ _ x y => simp only [stepA, hr x (by simp [AOp.args]), hr y (by simp [AOp.args])]; (repeat' split) <;> first | rfl | (simp [Function.comp_def])
  | notb x => simp only [stepA, hr x (by simp [AOp.args])]; (repeat' split) <;> rfl
  | neg _ x => simp only [stepA, hr x (by simp [AOp.args])]; (repeat' split) <;> rfl
  | cpl _ x => simp only [stepA, hr x (by simp [AOp.args])]; (repeat' split) <;> first | rfl | (simp [Function.comp_def])
  | conv _ x => simp only [stepA, hr x (by simp [AOp.args])]; (repeat' split) <;> rfl
  | b2s x => simp only [stepA, hr x (by simp [AOp.args])]; (repeat' split) <;> first | rfl | (simp [Function.comp_def])
  | s2b x => simp only [stepA, hr x (by simp [AOp.args])]; (repeat' split) <;> rfl
  | i2s x => simp only [stepA, hr x (by simp [AOp.args])]; (repeat' split) <;> rfl
  | bld _ ps => simp only [stepA, partsOf_cong (ps := ps) hr]; (repeat' split) <;> rfl
  | bsl _ _ _ ps m => simp only [stepA, partsOf_cong (ps := ps) hr]; (repeat' split) <;> rfl
  | ld _ x => simp only [stepA, hr x (by simp [AOp.args])]; simp [Function.comp_def]
  | nck x => simp only [stepA, hr x (by simp [AOp.args])]; (repeat' split) <;> rfl
  | fa _ x => simp only [stepA, hr x (by simp [AOp.args])]; (repeat' split) <;> rfl
  | ixa _ n x i => simp only [stepA, hr x (by simp [AOp.args]), index_cong (hr i (by simp [AOp.args]))]; (repeat' split) <;> first | rfl | (simp [Function.comp_def])
  | fld _ _ x => simp only [stepA, hr x (by simp [AOp.args])]; (repeat' split) <;> first | rfl | (simp [Function.comp_def])
  | ixs x i => simp only [stepA, hr x (by simp [AOp.args]), index_cong (hr i (by simp [AOp.args]))]; (repeat' split) <;> rfl
  | ixv _ _ _ x i => simp only [stepA, hr x (by simp [AOp.args]), index_cong (hr i (by simp [AOp.args]))]; (repeat' split) <;> first | rfl | (simp [Function.comp_def])
  | slc x lo hi =>
    have h1 := hr x (by simp [AOp.args])
    have h2 := optBound_cong (x := lo) (fun y hy => hr y (by simp only [AOp.args, List.mem_cons, List.mem_append]; exact .inr (.inl hy)))
    have h3 := optBound_cong (x := hi) (fun y hy => hr y (by simp only [AOp.args, List.mem_cons, List.mem_append]; exact .inr (.inr hy)))
    simp only [stepA, h1, h2, h3]; (repeat' split) <;> rfl
  | sls _ x lo hi m =>
    have h1 := hr x (by simp [AOp.args])
    have h2 := optBound_cong (x := lo) (fun y hy => hr y (by simp only [AOp.args, List.mem_cons, List.mem_append]; exact .inr (.inl (.inl hy))))
    have h3 := optBound_cong (x := hi) (fun y hy => hr y (by simp only [AOp.args, List.mem_cons, List.mem_append]; exact .inr (.inl (.inr hy))))
    have h4 := optBound_cong (x := m) (fun y hy => hr y (by simp only [AOp.args, List.mem_cons, List.mem_append]; exact .inr (.inr hy)))
    simp only [stepA, h1, h2, h3, h4]; (repeat' split) <;> rfl
  | slp _ _ x lo hi m =>
    have h1 := hr x (by simp [AOp.args])
    have h2 := optBound_cong (x := lo) (fun y hy => hr y (by simp only [AOp.args, List.mem_cons, List.mem_append]; exact .inr (.inl (.inl hy))))
    have h3 := optBound_cong (x := hi) (fun y hy => hr y (by simp only [AOp.args, List.mem_cons, List.mem_append]; exact .inr (.inl (.inr hy))))
    have h4 := optBound_cong (x := m) (fun y hy => hr y (by simp only [AOp.args, List.mem_cons, List.mem_append]; exact .inr (.inr hy)))
    simp only [stepA, h1, h2, h3, h4]; (repeat' split) <;> rfl
  | ext x _ => simp only [stepA, hr x (by simp [AOp.args])]; (repeat' split) <;> first | rfl | (simp [Function.comp_def])
  | len _ x => simp only [stepA, hr x (by simp [AOp.args])]; (repeat' split) <;> rfl
  | lena _ => rfl
  | mx _ xs => simp only [stepA, map_cong (xs := xs) hr]; (repeat' split) <;> rfl
  | mkf f xs ys =>
    have h1 := map_cong (xs := xs) (fun y hy => hr y (by simp only [AOp.args, List.mem_append]; exact .inl hy))
    have h2 := map_cong (xs := ys) (fun y hy => hr y (by simp only [AOp.args, List.mem_append]; exact .inr hy))
    simp only [stepA, h1, h2, Option.map_some]
  | _ => cases hc

theorem calm_cong {op : AOp} (h : Agree φ ψ (op.args.flatMap AX.slots)) : stepCalm call φ H op = stepCalm call ψ H op := by
  cases op with
  | tk x => simp only [stepCalm, args_cong h x (by simp [AOp.args])]
  | call f xs =>
    have hr : ∀ x ∈ xs, rd φ x = rd ψ x := fun x hx => by unfold rd; rw [args_cong h x hx]
    simp only [stepCalm, map_cong hr]
  | callv x xs =>
    have hr : ∀ y ∈ x :: xs, rd φ y = rd ψ y := fun y hy => by unfold rd; rw [args_cong h y hy]
    simp only [stepCalm, hr x (by simp), map_cong (xs := xs) (fun y hy => hr y (by simp [hy]))]
  | _ =>
    simp only [stepCalm]
    split
    · exact step_cong ‹_› h
    · rfl

theorem stepOC_cong {o : AOper} (h : Agree φ ψ o.slots) : stepOC call o φ H = stepOC call o ψ H := by
  have h1 : Agree φ ψ (o.op.args.flatMap AX.slots) := fun s hs => h s (List.mem_append.2 (.inl hs))
  have h2 : wantedA φ o.g = wantedA ψ o.g := by
    unfold wantedA
    cases hg : o.g with
    | none => rfl
    | some p =>
      obtain ⟨s, b⟩ := p
      have := h s (List.mem_append.2 (.inr (by simp [hg])))
      simp only [this]
  simp only [stepOC, h2, calm_cong h1]
end

/-! The head's operations, some of them done. -/

def putsD (φ : Fr) : List AOper → List V → (Nat → Bool) → Nat → Fr
  | o :: al, v :: vs, D, k => putsD (if D k then Fr.put φ o.d v else φ) al vs D (k + 1)
  | _, _, _, _ => φ

theorem get_put_ne {φ : Fr} {d : Option Nat} {v : V} {s : Nat} (h : d ≠ some s) : Fr.get (Fr.put φ d v) s = Fr.get φ s := by
  cases d with
  | none => rfl
  | some n =>
    simp only [Fr.put, Fr.get]
    rw [if_neg (by rintro rfl; exact h rfl)]

theorem get_put_eq {φ : Fr} {v : V} {s : Nat} : Fr.get (Fr.put φ (some s) v) s = v := by simp [Fr.put, Fr.get]

theorem get_put_cong {φ ψ : Fr} {d : Option Nat} {v : V} {s : Nat} (h : Fr.get φ s = Fr.get ψ s) : Fr.get (Fr.put φ d v) s = Fr.get (Fr.put ψ d v) s := by
  by_cases hd : d = some s
  · subst hd; rw [get_put_eq, get_put_eq]
  · rw [get_put_ne hd, get_put_ne hd, h]

theorem putsD_agree {s : Nat} : ∀ (al : List AOper) (vs : List V) (D E : Nat → Bool) (k : Nat) (φ ψ : Fr), Fr.get φ s = Fr.get ψ s → (∀ j o, al[j]? = some o → o.d = some s → D (k + j) = E (k + j)) →
    Fr.get (putsD φ al vs D k) s = Fr.get (putsD ψ al vs E k) s
  | [], _, _, _, _, _, _, h, _ => by simpa [putsD] using h
  | o :: al, [], _, _, _, _, _, h, _ => by simpa [putsD] using h
  | o :: al, v :: vs, D, E, k, φ, ψ, h, hw => by
    unfold putsD
    refine putsD_agree al vs D E (k + 1) _ _ ?_ (fun j o' hj hd => by have := hw (j + 1) o' (by simpa using hj) hd; rwa [show k + (j + 1) = k + 1 + j by omega] at this)
    by_cases hd : o.d = some s
    · have := hw 0 o (by simp) hd
      simp only [Nat.add_zero] at this
      rw [this]
      split
      · exact get_put_cong h
      · exact h
    · have e1 : ∀ (b : Bool) (χ : Fr), Fr.get (if b then Fr.put χ o.d v else χ) s = Fr.get χ s := by
        intro b χ; cases b
        · rfl
        · exact get_put_ne hd
      rw [e1, e1]; exact h

theorem putsD_next : ∀ (al : List AOper) (vs : List V) (i k : Nat) (φ : Fr) (o : AOper) (v : V), al[i]? = some o → vs[i]? = some v →
    putsD φ al vs (fun j => decide (j < k + i + 1)) k = Fr.put (putsD φ al vs (fun j => decide (j < k + i)) k) o.d v := by
  intro al
  induction al with
  | nil => intro vs i k φ o v h; simp at h
  | cons o' al ih =>
    intro vs i k φ o v h hv
    cases vs with
    | nil => simp at hv
    | cons v' vs =>
      cases i with
      | zero =>
        simp at h hv; subst h hv
        have hskip : ∀ (al : List AOper) (vs : List V) (k m : Nat) (χ : Fr), m ≤ k → putsD χ al vs (fun j => decide (j < m)) k = χ := by
          intro al
          induction al with
          | nil => intro vs k m χ _; cases vs <;> rfl
          | cons o al ih =>
            intro vs k m χ hm
            cases vs with
            | nil => rfl
            | cons v vs =>
              unfold putsD
              rw [if_neg (by simp; omega)]
              exact ih vs (k + 1) m χ (by omega)
        rw [hskip _ _ k (k + 0) φ (by omega)]
        unfold putsD
        rw [if_pos (by simp)]
        exact hskip al vs (k + 1) _ _ (by omega)
      | succ i =>
        simp at h hv
        have := ih vs i (k + 1) (Fr.put φ o'.d v') o v h hv
        unfold putsD
        rw [if_pos (decide_eq_true (by omega)), if_pos (decide_eq_true (by omega))]
        rw [show k + (i + 1) = k + 1 + i by omega]
        exact this

theorem putsD_none : ∀ (al : List AOper) (vs : List V) (k : Nat) (φ : Fr), putsD φ al vs (fun _ => false) k = φ
  | [], vs, k, φ => by cases vs <;> rfl
  | o :: al, [], k, φ => rfl
  | o :: al, v :: vs, k, φ => by unfold putsD; exact putsD_none al vs (k + 1) φ

/-- The lexical run's values. -/
theorem runCalm_vals {call : CallF} {φ' : Fr} {H H' : Heap} : ∀ (al : List AOper) (φ : Fr), runCalm call al φ H = some (φ', H') →
    H' = H ∧ ∃ vs, vs.length = al.length ∧ putsD φ al vs (fun _ => true) 0 = φ' ∧ ∀ i o v, al[i]? = some o → vs[i]? = some v → stepOC call o (putsD φ al vs (fun j => decide (j < i)) 0) H = some v := by
  intro al
  induction al with
  | nil =>
    intro φ h
    simp only [runCalm, Option.some.injEq, Prod.mk.injEq] at h
    exact ⟨h.2.symm, [], rfl, by rw [← h.1]; rfl, fun i o v h1 => by simp at h1⟩
  | cons o al ih =>
    intro φ h
    unfold runCalm at h
    split at h
    · rename_i v hv
      obtain ⟨hH, vs, hl, hp, hs⟩ := ih _ h
      have hshift : ∀ (al : List AOper) (vs : List V) (D E : Nat → Bool) (k m : Nat) (χ : Fr), (∀ j, D (k + j) = E (m + j)) → putsD χ al vs D k = putsD χ al vs E m := by
        intro al
        induction al with
        | nil => intro vs D E k m χ _; cases vs <;> rfl
        | cons o al ih2 =>
          intro vs D E k m χ hD
          cases vs with
          | nil => rfl
          | cons v vs =>
            unfold putsD
            rw [show D k = E m by simpa using hD 0]
            exact ih2 vs D E (k + 1) (m + 1) _ (fun j => by have := hD (j + 1); rwa [show k + (j + 1) = k + 1 + j by omega, show m + (j + 1) = m + 1 + j by omega] at this)
      refine ⟨hH, v :: vs, by simp [hl], ?_, fun i o' v' h1 h2 => ?_⟩
      · unfold putsD
        rw [if_pos rfl, hshift al vs (fun _ => true) (fun _ => true) 1 0 _ (fun _ => rfl)]; exact hp
      · cases i with
        | zero =>
          simp at h1 h2; subst h1 h2
          rw [show (fun j => decide (j < 0)) = fun _ => false by funext j; simp, putsD_none]; exact hv
        | succ i =>
          simp at h1 h2
          have := hs i o' v' h1 h2
          unfold putsD
          rw [if_pos (by simp), hshift al vs (fun j => decide (j < i + 1)) (fun j => decide (j < i)) (0 + 1) 0 _ (fun j => by simp; omega)]
          exact this
    · cases h

end Go.AM
