/-
  The state of a frame and its memory, as plain data stand for it; what each small step leaves of it.
-/
import Derived.Test.YtbgblfbbeamleaaGreatDoorRel
import Derived.Tactics
set_option linter.unusedVariables false
namespace Go.AM

/-- What stays as it is while code runs: the frame's size; where the heap ended when the activation began; in a round, its loop's record. -/
structure Cx where
  n : Nat
  B : Nat
  rd : Option Nat
  /-- The deferred call that waits. -/
  dd : Option Deferred := none
  /-- The wide form of a function runs. -/
  w : Bool := false

def mark (D : Nat) : Deferred := { target := .collected D, args := #[] }

/-- The marks of the loops over functions that have come to their ends, around the deferred call that waits. -/
def Df (nt : Cx) (ds : List Deferred) (w : World) : Prop :=
  match nt.rd with
  | none => nt.B ≤ w.heap.size ∧ ∃ Ds Es : List Nat, ds = Ds.map mark ++ (nt.dd.toList ++ Es.map mark) ∧ (Ds ++ Es).Nodup ∧ ∀ D ∈ Ds ++ Es, nt.B ≤ D ∧ w.heap[D]? = some (.deferred (some []))
  | some l => ds = [] ∧ ∃ r, w.heap[l]? = some (.loop r)

theorem Df.kp {nt : Cx} {ds : List Deferred} {w w' : World} (h : Df nt ds w) {F : Nat → Nat → Prop} (k : Kp F w w') : Df nt ds w' := by
  unfold Df at *
  split
  · rename_i e
    rw [e] at h
    obtain ⟨h0, Ds, Es, h1, h2, h3⟩ := h
    exact ⟨Nat.le_trans h0 k.size, Ds, Es, h1, h2, fun D hD => ⟨(h3 D hD).1, k.obj_deferred (h3 D hD).2⟩⟩
  · rename_i l e
    rw [e] at h
    obtain ⟨h1, r, h2⟩ := h
    obtain ⟨r', h3, _⟩ := k.obj_loop h2
    exact ⟨h1, r', h3⟩

/-- A deferred call is laid by. -/
theorem Df.defer {n B : Nat} {ds : List Deferred} {w : World} (h : Df { n, B, rd := none } ds w) (d : Deferred) : Df { n, B, rd := none, dd := some d } (d :: ds) w := by
  obtain ⟨h0, Ds, Es, h1, h2, h3⟩ := h
  exact ⟨h0, [], Ds ++ Es, by simp [h1], by simpa using h2, by simpa using h3⟩

structure StA (E : LblP) (nt : Cx) (φ : Fr) (H : Heap) (ρ : Own) (ι : Places) (a : Act) (w : World) (vs : List V) (xs : List Value) : Prop where
  sz : a.tmps.size = nt.n
  df : Df nt a.defers w
  sl : ∀ s, RL w (foot ρ) ι (Fr.get φ s) (a.tmps.getD s Go.undef) (ρ (.slot s))
  al : vs.length = xs.length
  ar : ∀ (j : Nat) (v : V) (x : Value), vs[j]? = some v → xs[j]? = some x → RL w (foot ρ) ι v x (ρ (.arg j))
  an : ∀ j, vs.length ≤ j → ρ (.arg j) = none
  mem : Mem E H ι ρ w
  sep : Sep ρ w
  wd : nt.w = E.lim.isNone

/-- One owner gives its tail to another. -/
def Own.move (ρ : Own) (k k' : Key) : Own := (ρ.put k' (ρ k)).put k none

theorem Own.move_from (ρ : Own) (k k' : Key) : ρ.move k k' k = none := by simp [Own.move, Own.put]
theorem Own.move_to (ρ : Own) {k k' : Key} (h : k' ≠ k) : ρ.move k k' k' = ρ k := by simp [Own.move, Own.put, h]
theorem Own.move_other (ρ : Own) {k k' l : Key} (h : l ≠ k) (h' : l ≠ k') : ρ.move k k' l = ρ l := by simp [Own.move, Own.put, h, h']

theorem move_inv {ρ : Own} {k k' l : Key} {p : Nat × Nat} (hk : k' ≠ k) (h : ρ.move k k' l = some p) : ∃ l', ρ l' = some p ∧ (l = k' ∧ l' = k ∨ l ≠ k' ∧ l' = l) := by
  by_cases h1 : l = k
  · subst h1; rw [Own.move_from] at h; cases h
  · by_cases h2 : l = k'
    · subst h2; rw [Own.move_to _ hk] at h; exact ⟨k, h, .inl ⟨rfl, rfl⟩⟩
    · rw [Own.move_other _ h1 h2] at h; exact ⟨l, h, .inr ⟨h2, rfl⟩⟩

theorem foot_move (ρ : Own) {k k' : Key} (hk : k' ≠ k) (h : ρ k' = none) : foot (ρ.move k k') = foot ρ := by
  funext b o
  refine propext ⟨fun ⟨l, n, hl, hn⟩ => ?_, fun ⟨l, n, hl, hn⟩ => ?_⟩
  · obtain ⟨l', hl', _⟩ := move_inv hk hl; exact ⟨l', n, hl', hn⟩
  · by_cases h1 : l = k
    · subst h1; exact ⟨k', n, by rw [Own.move_to _ hk, hl], hn⟩
    · exact ⟨l, n, by rw [Own.move_other _ h1 (by rintro rfl; rw [h] at hl; cases hl), hl], hn⟩

theorem Sep.move {ρ : Own} {w : World} (s : Sep ρ w) {k k' : Key} (hk : k' ≠ k) : Sep (ρ.move k k') w := by
  refine ⟨fun l m b n n' hl hm => ?_, fun l b n hl => ?_⟩
  · obtain ⟨l', hl', h1⟩ := move_inv hk hl
    obtain ⟨m', hm', h2⟩ := move_inv hk hm
    have := s.one _ _ _ _ _ hl' hm'
    subst this
    rcases h1 with ⟨rfl, rfl⟩ | ⟨h1, rfl⟩ <;> rcases h2 with ⟨rfl, h3⟩ | ⟨h2, rfl⟩
    · rfl
    · rw [Own.move_from] at hm; cases hm
    · subst h3; rw [Own.move_from] at hl; cases hl
    · rfl
  · obtain ⟨l', hl', _⟩ := move_inv hk hl; exact s.here _ _ _ hl'

/-- Fewer owners. -/
theorem Sep.sub {ρ ρ' : Own} {w : World} (s : Sep ρ w) (h : ∀ k p, ρ' k = some p → ρ k = some p) : Sep ρ' w :=
  ⟨fun k k' b n n' hk hk' => s.one k k' b n n' (h _ _ hk) (h _ _ hk'), fun k b n hk => s.here k b n (h _ _ hk)⟩

theorem foot_sub {ρ ρ' : Own} (h : ∀ k p, ρ' k = some p → ρ k = some p) (b o : Nat) (hf : foot ρ' b o) : foot ρ b o := by
  obtain ⟨k, n, hk, hn⟩ := hf; exact ⟨k, n, h _ _ hk, hn⟩

theorem Goes.sub {ρ ρ' : Own} (ι : Places) (w : World) (h : ∀ k p, ρ' k = some p → ρ k = some p) (hf : ∀ n, ρ' (.fr n) = ρ (.fr n)) : Goes ρ ι w ρ' ι w :=
  .of (.refl _ _) (fun _ _ h => h) (fun k b n hm hk => .inr ⟨k, n, hm, h _ _ hk, Nat.le_refl _⟩) hf (fun b _ => .refl b w)

theorem Goes.move (ρ : Own) (ι : Places) (w : World) {k k' : Key} (hk : k' ≠ k) (h1 : ∀ n, .fr n ≠ k) (h2 : ∀ n, .fr n ≠ k') : Goes ρ ι w (ρ.move k k') ι w :=
  .of (.refl _ _) (fun _ _ h => h) (fun l b n hm hl => by
    obtain ⟨l', hl', h3⟩ := move_inv hk hl
    refine .inr ⟨l', n, ?_, hl', Nat.le_refl _⟩
    rcases h3 with ⟨_, rfl⟩ | ⟨_, rfl⟩
    · cases l' <;> first | rfl | exact absurd rfl (h1 _)
    · exact hm) (fun n => Own.move_other _ (h1 n) (h2 n)) (fun b _ => .refl b w)

/-- The memory is the same to owners that agree on it. -/
theorem Mem.own {E : LblP} {H : Heap} {ι : Places} {ρ ρ' : Own} {w : World} (m : Mem E H ι ρ w) (hb : ∀ i, ρ' (.blk i) = ρ (.blk i)) (hc : ∀ i j, ρ' (.cell i j) = ρ (.cell i j))
    (hf : ∀ b o, foot ρ' b o → foot ρ b o) : Mem E H ι ρ' w := by
  refine ⟨m.len, fun i vs hi hne => ?_, fun i vs l hi hl => ?_, fun i hi => ?_, fun i vs j hi hj => ?_, m.glo.foot hf, m.lim⟩
  · obtain ⟨b, base, c, t, fr, h1, h2, h3, h4, h5, h6⟩ := m.blk i vs hi hne
    refine ⟨b, base, c, t, fr, h1, by rw [hb]; exact h2, h3, h4, h5, fun j v hj => ?_⟩
    obtain ⟨x, hx, hr, hu⟩ := h6 j v hj
    exact ⟨x, hx, by rw [hc]; exact hr.anti hf, hu⟩
  · exact (m.rcd i vs l hi hl).mono (fun b o y h1 h2 => ⟨h1, fun h3 => h2 (hf _ _ h3)⟩) (fun _ _ h => h) (fun _ _ h => h) (hb i) (hc i) (fun _ _ _ _ _ => rfl)
  · rw [hb]; exact ⟨(m.dead i hi).1, fun j => by rw [hc]; exact (m.dead i hi).2 j⟩
  · rw [hc]; exact m.past i vs j hi hj

@[simp] theorem get_cons (φ : Fr) (k i : Nat) (v : V) : Fr.get ((k, v) :: φ) i = if i = k then v else Fr.get φ i := rfl

theorem getD_set (xs : Array Value) (d i : Nat) (x u : Value) (hd : d < xs.size) : (xs.setIfInBounds d x).getD i u = if i = d then x else xs.getD i u := by
  by_cases h : i = d
  · subst h; simp [hd]
  · simp only [h, if_false]
    simp only [Array.getD_eq_getD_getElem?, Array.getElem?_setIfInBounds]
    rw [if_neg (fun hh => h hh.symm)]

/-- The operand's value goes into its slot. -/
theorem StA.put {E : LblP} {nt : Cx} {φ : Fr} {H : Heap} {ρ : Own} {ι : Places} {a : Act} {w : World} {v : V} {x : Value} (s : StA E nt φ H ρ ι a w [v] [x]) (d : Option Nat) (hd : ∀ n, d = some n → n < nt.n) :
    ∃ ρ', StA E nt (Fr.put φ d v) H ρ' ι (a.put d x) w [] [] ∧ Goes ρ ι w ρ' ι w := by
  have hx := s.ar 0 v x rfl rfl
  cases d with
  | none =>
    have hsub : ∀ k p, (ρ.put (.arg 0) none) k = some p → ρ k = some p := fun k p h => by
      by_cases hk : k = .arg 0
      · subst hk; simp at h
      · rwa [Own.put_other _ _ hk] at h
    refine ⟨ρ.put (.arg 0) none, ⟨s.sz, s.df, fun i => ?_, rfl, fun j v x h => by simp at h, fun j _ => ?_, s.mem.own (fun _ => Own.put_other _ _ (by simp)) (fun _ _ => Own.put_other _ _ (by simp)) (foot_sub hsub), s.sep.sub hsub, s.wd⟩, Goes.sub _ _ hsub (fun _ => Own.put_other _ _ (by simp))⟩
    · rw [Own.put_other _ _ (by simp)]; exact (s.sl i).anti (foot_sub hsub)
    · by_cases hj : j = 0
      · subst hj; simp
      · rw [Own.put_other _ _ (by simpa using hj)]; exact s.an j (by simp; omega)
  | some n =>
    have hn := hd n rfl
    -- what the slot held is let go, then the operand's tail goes there
    obtain ⟨ρ1, h1, h2⟩ : ∃ ρ1 : Own, ρ1 (.slot n) = none ∧ ∀ k, k ≠ .slot n → ρ1 k = ρ k := ⟨ρ.put (.slot n) none, by simp, fun k hk => Own.put_other _ _ hk⟩
    have hsub : ∀ k p, ρ1 k = some p → ρ k = some p := fun k p h => by
      by_cases hk : k = .slot n
      · subst hk; rw [h1] at h; cases h
      · rwa [h2 _ hk] at h
    have hne : Key.slot n ≠ Key.arg 0 := by simp
    have hf : foot (ρ1.move (.arg 0) (.slot n)) = foot ρ1 := foot_move ρ1 hne h1
    have ho : ∀ k, k ≠ .arg 0 → k ≠ .slot n → ρ1.move (.arg 0) (.slot n) k = ρ k := fun k h h' => by
      rw [Own.move_other _ h h', h2 _ h']
    have hF : ∀ b o, foot (ρ1.move (.arg 0) (.slot n)) b o → foot ρ b o := fun b o h => foot_sub hsub b o (hf ▸ h)
    refine ⟨ρ1.move (.arg 0) (.slot n), ⟨?_, s.df, fun i => ?_, rfl, fun j v x h => by simp at h, fun j _ => ?_, s.mem.own (fun _ => ho _ (by simp) (by simp)) (fun _ _ => ho _ (by simp) (by simp)) hF, (s.sep.sub hsub).move hne, s.wd⟩,
      (Goes.sub _ _ hsub (fun n => h2 _ (by simp))).trans (Goes.move _ _ _ hne (by simp) (by simp))⟩
    · simp [Act.put, s.sz]
    · simp only [Fr.put, get_cons, Act.put]
      rw [getD_set _ _ _ _ _ (by rw [s.sz]; exact hn)]
      by_cases hi : i = n
      · subst hi
        simp only [if_true]
        rw [Own.move_to _ hne, h2 _ (by simp)]
        exact hx.anti hF
      · simp only [hi, if_false]
        rw [ho _ (by simp) (by simpa using hi)]
        exact (s.sl i).anti hF
    · by_cases hj : j = 0
      · subst hj; exact Own.move_from _ _ _
      · rw [ho _ (by simpa using hj) (by simp)]; exact s.an j (by simp; omega)

/-- An operation that leaves the world, and gives a value that is no own list. -/
theorem StA.value {E : LblP} {nt : Cx} {φ : Fr} {H : Heap} {ρ : Own} {ι : Places} {a : Act} {w : World} (s : StA E nt φ H ρ ι a w [] []) {v : V} {x : Value} (h : R w (foot ρ) ι v x) :
    StA E nt φ H ρ ι a w [v] [x] := by
  refine ⟨s.sz, s.df, s.sl, rfl, fun j u y h1 h2 => ?_, fun j hj => s.an j (by simp), s.mem, s.sep, s.wd⟩
  cases j with
  | zero => simp at h1 h2; subst h1; subst h2; rw [s.an 0 (by simp)]; exact h.RL
  | succ j => simp at h1

/-- From state to state, where the slots' owners keep what they own. -/
theorem StA.go {E : LblP} {nt : Cx} {φ : Fr} {H H' : Heap} {ρ ρ' : Own} {ι ι' : Places} {a : Act} {w w' : World} {vs : List V} {xs : List Value} (s : StA E nt φ H ρ ι a w vs xs) (e : Goes ρ ι w ρ' ι' w')
    (hs : ∀ i, ρ' (.slot i) = ρ (.slot i)) (ha : ∀ i, ρ' (.arg i) = ρ (.arg i)) (m : Mem E H' ι' ρ' w') (p : Sep ρ' w') : StA E nt φ H' ρ' ι' a w' vs xs :=
  ⟨s.sz, s.df.kp e.kp, fun i => by rw [hs]; exact (s.sl i).ext e (hs i), s.al, fun j v x h1 h2 => by rw [ha]; exact (s.ar j v x h1 h2).ext e (ha j), fun j hj => by rw [ha]; exact s.an j hj, m, p, s.wd⟩

end Go.AM
