/-
  The operations on memory: new blocks, loads, stores, addresses.
-/
import Derived.Test.YtbgblfbbeamleaaGreatDoorMem
set_option linter.unusedVariables false
set_option linter.unusedSimpArgs false
namespace Go.AM

mutual
theorem under_mono {m n : Nat} (h : m ≤ n) : ∀ v : V, v.under m = true → v.under n = true
  | .ptr i _, hv => by simp [V.under] at hv ⊢; omega
  | .ms i _ _ _, hv => by simp [V.under] at hv ⊢; omega
  | .agg cs, hv => by simp only [V.under] at hv ⊢; exact underAll_mono h cs hv
  | .tup cs, hv => by simp only [V.under] at hv ⊢; exact underAll_mono h cs hv
  | .fn _ a b, hv => by
    simp only [V.under, Bool.and_eq_true] at hv ⊢
    exact ⟨underAll_mono h a hv.1, underAll_mono h b hv.2⟩
  | .bool _, _ => rfl
  | .int .., _ => rfl
  | .str _, _ => rfl
  | .nilp, _ => rfl
  | .nilf, _ => rfl
  | .undef, _ => rfl
  | .no, _ => rfl
  | .rp .., _ => rfl
  | .sl .., _ => rfl
  | .own .., _ => rfl
  | .yld i, hv => by simp [V.under] at hv ⊢; omega
  | .mix _ _ i _, hv => by simp [V.under] at hv ⊢; omega
  | .lrec .., _ => rfl
  | .bld .., _ => rfl
  | .mp .., _ => rfl
  | .nilm, _ => rfl
  | .nils _, _ => rfl
  | .bptr i, hv => by simp [V.under] at hv ⊢; omega
  | .mptr i, hv => by simp [V.under] at hv ⊢; omega
  | .mg _ i _ _ _, hv => by simp [V.under] at hv ⊢; omega
theorem underAll_mono {m n : Nat} (h : m ≤ n) : ∀ vs : List V, V.underAll m vs = true → V.underAll n vs = true
  | [], _ => rfl
  | v :: vs, hv => by
    simp only [V.underAll, Bool.and_eq_true] at hv ⊢
    exact ⟨under_mono h v hv.1, underAll_mono h vs hv.2⟩
end

theorem LblP.fit_of {E : LblP} {i : Nat} {v : V} (h : v.under (i + 1) = true) : E.fit i v := fun N _ => under_mono (by omega) v h

theorem LblP.fit_none {E : LblP} (h : E.lim = none) (i : Nat) (v : V) : E.fit i v := fun N hN => by rw [h] at hN; cases hN

theorem underAll_iff {m : Nat} : ∀ {vs : List V}, V.underAll m vs = true ↔ ∀ (j : Nat) (v : V), vs[j]? = some v → v.under m = true
  | [] => by simp [V.underAll]
  | u :: us => by
    simp only [V.underAll, Bool.and_eq_true, underAll_iff (vs := us)]
    refine ⟨fun h j v hj => ?_, fun h => ⟨h 0 u rfl, fun j v hj => h (j + 1) v hj⟩⟩
    cases j with
    | zero => simp at hj; subst hj; exact h.1
    | succ j => exact h.2 j v (by simpa using hj)

theorem PR.under {w : World} {F : Nat → Nat → Prop} {v : V} {x : Value} (h : PR w F v x) (m : Nat) : v.under m = true := by
  cases h <;> rfl

theorem get_some {α : Type} {l : List α} {j : Nat} {v : α} (h : l[j]? = some v) : j < l.length := by
  rcases Nat.lt_or_ge j l.length with h' | h'
  · exact h'
  · rw [List.getElem?_eq_none h'] at h; cases h

theorem R.under {w : World} {F : Nat → Nat → Prop} {ι : Places} {v : V} {x : Value} (h : R w F ι v x) : v.under ι.length = true := by
  induction h with
  | pr h => exact h.under _
  | undef x => rfl
  | no => rfl
  | ptr i off b base h => simp only [V.under, decide_eq_true_eq]; exact get_some h
  | rp => rfl
  | ms i off len cap b base cap' ad h h1 h2 ha hn => simp only [V.under, decide_eq_true_eq]; exact get_some h
  | agg cs xs hs h ih =>
    simp only [V.under]
    exact underAll_iff.2 fun j v hj => by
      have := get_some hj
      exact ih j v xs[j] hj (by simp)
  | tup cs xs hs h ih =>
    simp only [V.under]
    exact underAll_iff.2 fun j v hj => by
      have := get_some hj
      exact ih j v xs[j] hj (by simp)
  | fn f l m xs ys hs ht h h' ih ih' =>
    simp only [V.under, Bool.and_eq_true]
    exact ⟨underAll_iff.2 fun j v hj => by have := get_some hj; exact ih j v xs[j] hj (by simp), underAll_iff.2 fun j v hj => by have := get_some hj; exact ih' j v ys[j] hj (by simp)⟩
  | yld i l h => simp only [V.under, decide_eq_true_eq]; exact get_some h
  | bptr i l h => simp only [V.under, decide_eq_true_eq]; exact get_some h
  | mptr i l h => simp only [V.under, decide_eq_true_eq]; exact get_some h
  | mix k rows i n b off cap h hl hp hc => simp only [V.under, decide_eq_true_eq]; exact get_some h
  | mg k i off len cap b base cap' ad h h1 h2 ha hn hc => simp only [V.under, decide_eq_true_eq]; exact get_some h

theorem RL.under {w : World} {F : Nat → Nat → Prop} {ι : Places} {v : V} {x : Value} {tl : Option (Nat × Nat)} (h : RL w F ι v x tl) : v.under ι.length = true := by
  rcases own_or v with ⟨k, r, rfl⟩ | hv
  · rfl
  · exact ((RL_other hv).1 h).1.under

/-! ### A new block -/

theorem kp_alloc (F : Nat → Nat → Prop) (w : World) (o : Obj) : Kp F w (w.alloc o) :=
  ⟨rfl, rfl, rfl, by simp, fun b hb => by rw [Go.RowKit.Below.heap_alloc _ _ _ hb]; exact .refl _ _⟩

/-- The owners behind a new block of ours: its cells own T; the operands' tails are gone there. -/
def Own.push (ρ : Own) (n size : Nat) (T : Nat → Option (Nat × Nat)) : Own
  | .blk i => if i = n then some (size, 0) else ρ (.blk i)
  | .cell i j => if i = n then T j else ρ (.cell i j)
  | .slot s => ρ (.slot s)
  | .arg j => if j = 0 then none else ρ (.arg j)
  | .fr n => ρ (.fr n)

theorem StA.push {E : LblP} {nt : Cx} {φ : Fr} {H : Heap} {ρ : Own} {ι : Places} {a : Act} {w : World} {us : List V} {zs : List Value} (s : StA E nt φ H ρ ι a w us zs) (hus : us.length ≤ 1) (vs : List V) (xs : Array Value) (t : TypeId) (T : Nat → Option (Nat × Nat))
    (hl : xs.size = vs.length) (hv : ∀ (j : Nat) (v : V) (x : Value), vs[j]? = some v → xs[j]? = some x → RL w (foot ρ) ι v x (T j)) (hT : ∀ j p, T j = some p → j = 0 ∧ j < vs.length ∧ ρ (.arg 0) = some p) :
    StA E nt φ (H ++ [some vs]) (ρ.push H.length w.heap.size T) (ι ++ [.blk w.heap.size 0]) a (w.alloc (.cells xs t)) [] [] ∧ Goes ρ ι w (ρ.push H.length w.heap.size T) (ι ++ [.blk w.heap.size 0]) (w.alloc (.cells xs t)) := by
  have hnone : ρ (.blk H.length) = none ∧ ∀ j, ρ (.cell H.length j) = none := s.mem.dead _ (by simp)
  have hinv : ∀ k p, ρ.push H.length w.heap.size T k = some p → (k = .blk H.length ∧ p = (w.heap.size, 0)) ∨ (∃ j, k = .cell H.length j ∧ j = 0 ∧ ρ (.arg 0) = some p) ∨ ((∀ j, k ≠ .cell H.length j) ∧ k ≠ .blk H.length ∧ k ≠ .arg 0 ∧ ρ k = some p) := by
    intro k p h
    cases k with
    | blk i =>
      simp only [Own.push] at h
      split at h
      · subst_vars; exact .inl ⟨rfl, by simpa using h.symm⟩
      · exact .inr (.inr ⟨by simp, by simpa using ‹_›, by simp, h⟩)
    | cell i j =>
      simp only [Own.push] at h
      split at h
      · subst_vars; exact .inr (.inl ⟨j, rfl, (hT j p h).1, (hT j p h).2.2⟩)
      · rename_i hne; exact .inr (.inr ⟨fun j' h' => (by injection h' with h1 h2; exact hne h1), by simp, by simp, h⟩)
    | slot i => exact .inr (.inr ⟨by simp, by simp, by simp, h⟩)
    | fr i => exact .inr (.inr ⟨by simp, by simp, by simp, h⟩)
    | arg j =>
      simp only [Own.push] at h
      split at h
      · cases h
      · exact .inr (.inr ⟨by simp, by simp, by simpa using ‹_›, h⟩)
  have g : Goes ρ ι w (ρ.push H.length w.heap.size T) (ι ++ [.blk w.heap.size 0]) (w.alloc (.cells xs t)) := by
    refine .of (kp_alloc _ _ _) (fun i p h => ?_) (fun k b n hm h => ?_) (fun _ => rfl) (fun b hb => .of_eq (Go.RowKit.Below.heap_alloc _ _ _ hb))
    · rw [List.getElem?_append_left (get_some h)]; exact h
    · rcases hinv k _ h with ⟨_, h1⟩ | ⟨j, _, _, h1⟩ | ⟨_, _, _, h1⟩
      · simp at h1; exact .inl (by omega)
      · exact .inr ⟨_, n, rfl, h1, Nat.le_refl _⟩
      · exact .inr ⟨_, n, hm, h1, Nat.le_refl _⟩
  refine ⟨⟨s.sz, s.df.kp g.kp, fun i => (s.sl i).ext (k := .slot i) g rfl, rfl, fun j v x h => by simp at h, fun j _ => ?_, ⟨?_, fun i ws hi hne => ?_, fun i ws l hi hl => ?_, fun i hi => ?_, fun i ws j hi hj => ?_, s.mem.glo.ext g, fun N hN => by have := s.mem.lim N hN; simp; omega⟩, ⟨fun k k' b n n' h h' => ?_, fun k b n h => ?_⟩, s.wd⟩, g⟩
  · simp only [Own.push]
    split
    · rfl
    · exact s.an j (by omega)
  · simp [s.mem.len]
  · rcases Nat.lt_trichotomy i H.length with h1 | h1 | h1
    · rw [List.getElem?_append_left h1] at hi
      obtain ⟨b, base, c, t1, fr, r1, r2, r3, r4, r5, r6⟩ := s.mem.blk i ws hi (fun l hl => hne l (by rw [List.getElem?_append_left (by rw [s.mem.len]; exact h1)]; exact hl))
      refine ⟨b, base, c, t1, fr, g.io _ _ r1, by simp only [Own.push]; rw [if_neg (by omega)]; exact r2, by rw [Go.RowKit.Below.heap_alloc _ _ _ (lt_of_obj r3)]; exact r3, r4, fun o h1 h2 => by rw [Marks0.of_eq (Go.RowKit.Below.heap_alloc w (.cells xs t) b (lt_of_obj r3))]; exact r5 o h1 h2, fun j v hj => ?_⟩
      obtain ⟨x, q1, q2, q3⟩ := r6 j v hj
      refine ⟨x, q1, ?_, q3⟩
      simp only [Own.push]; rw [if_neg (by omega)]; exact q2.ext g (by simp only [Own.push]; rw [if_neg (by omega)])
    · subst h1
      simp at hi
      subst hi
      refine ⟨w.heap.size, 0, xs, t, (0, 0), by rw [← s.mem.len]; simp, by simp [Own.push], heap_alloc_new w _, by simp [hl], fun o _ _ => by simp, fun j v hj => ?_⟩
      have hj' := get_some hj
      have hx : xs[j]? = some xs[j] := by simp
      refine ⟨xs[j], by simp, ?_, ?_⟩
      · simp only [Own.push, if_true]; exact (hv j v _ hj hx).extw g (fun p hp => ⟨.cell H.length j, by simp only [Own.push, if_true]; exact hp⟩)
      · exact LblP.fit_of (under_mono (by rw [s.mem.len]; omega) v (hv j v _ hj hx).under)
    · rw [List.getElem?_eq_none (by simp; omega)] at hi; cases hi
  · have hlen := s.mem.len
    rcases Nat.lt_trichotomy i H.length with h1 | h1 | h1
    · rw [List.getElem?_append_left h1] at hi
      rw [List.getElem?_append_left (by omega)] at hl
      exact (s.mem.rcd i ws l hi hl).ext g (by simp only [Own.push]; rw [if_neg (by omega)]) (fun j => by simp only [Own.push]; rw [if_neg (by omega)]) (fun k b n _ hb => Go.RowKit.Below.heap_alloc _ _ _ (s.sep.here _ _ _ hb))
    · rw [h1, ← hlen] at hl
      simp at hl
    · rw [List.getElem?_eq_none (by simp; omega)] at hl; cases hl
  · have h1 : i ≠ H.length := by
      rintro rfl
      exact hi vs (by simp)
    have h2 := s.mem.dead i (fun ws hw => hi ws (by rw [List.getElem?_append_left (get_some hw)]; exact hw))
    refine ⟨by simp only [Own.push]; rw [if_neg h1]; exact h2.1, fun j => by simp only [Own.push]; rw [if_neg h1]; exact h2.2 j⟩
  · simp only [Own.push]
    split
    · subst_vars
      simp at hi
      subst hi
      cases hTj : T j with
      | none => rfl
      | some p => have := (hT j p hTj).2.1; omega
    · rename_i h1
      have : i < H.length := by have := get_some hi; simp at this; omega
      rw [List.getElem?_append_left this] at hi
      exact s.mem.past i ws j hi hj
  · rcases hinv k _ h with ⟨rfl, h1⟩ | ⟨j, rfl, rfl, h1⟩ | ⟨q1, q2, q3, h1⟩ <;> rcases hinv k' _ h' with ⟨rfl, h2⟩ | ⟨j', rfl, rfl, h2⟩ | ⟨q1', q2', q3', h2⟩
    · rfl
    · simp at h1; have := s.sep.here _ _ _ h2; omega
    · simp at h1; have := s.sep.here _ _ _ h2; omega
    · simp at h2; have := s.sep.here _ _ _ h1; omega
    · rfl
    · exact absurd (s.sep.one _ _ _ _ _ h1 h2).symm q3'
    · simp at h2; have := s.sep.here _ _ _ h1; omega
    · exact absurd (s.sep.one _ _ _ _ _ h1 h2) q3
    · exact s.sep.one _ _ _ _ _ h1 h2
  · rcases hinv k _ h with ⟨_, h1⟩ | ⟨j, _, _, h1⟩ | ⟨_, _, _, h1⟩
    · simp at h1; simp; omega
    · have := s.sep.here _ _ _ h1; simp; omega
    · have := s.sep.here _ _ _ h1; simp; omega

section
variable {P : Program} {E : LblP} {nt : Cx} {φ : Fr} {H : Heap} {ρ : Own} {ι : Places} {a : Act} {w : World} {o : Oper}

theorem ptr_new {w : World} {F : Nat → Nat → Prop} {ι : Places} (n : Nat) : R w F (ι ++ [.blk n 0]) (.ptr ι.length 0) (.pointer (some ⟨n, 0, none⟩)) := by
  have := R.ptr (w := w) (F := F) (ι := ι ++ [.blk n 0]) ι.length 0 n 0 (by simp)
  simpa using this

theorem cells_ok {F : Nat → Nat → Prop} {v : V} {x : Value} (h : R w F ι v x) (hv : v ≠ .undef) : x.cells.size = v.cells.length ∧ ∀ (j : Nat) (u : V) (y : Value), v.cells[j]? = some u → x.cells[j]? = some y → R w F ι u y := by
  have one : ∀ {v : V} {x : Value}, v.cells = [v] → x.cells = #[x] → R w F ι v x → x.cells.size = v.cells.length ∧ ∀ (j : Nat) (u : V) (y : Value), v.cells[j]? = some u → x.cells[j]? = some y → R w F ι u y := by
    intro v x h1 h2 h
    rw [h1, h2]
    refine ⟨rfl, fun j u y hu hy => ?_⟩
    cases j with
    | zero => simp at hu hy; subst hu; subst hy; exact h
    | succ j => simp at hu
  cases h with
  | pr h => exact one (by cases h <;> rfl) (by cases h <;> rfl) (.pr h)
  | undef x => exact absurd rfl hv
  | no => exact one rfl rfl .no
  | ptr i off b base h => exact one rfl rfl (.ptr i off b base h)
  | rp row off b base vals hc hr => exact one rfl rfl (.rp row off b base vals hc hr)
  | ms i off len cap b base cap' ad h h1 h2 ha hn => exact one rfl rfl (.ms i off len cap b base cap' ad h h1 h2 ha hn)
  | agg cs xs hs h => exact ⟨hs, h⟩
  | tup cs xs hs h => exact one rfl rfl (.tup cs xs hs h)
  | fn f l m xs ys hs ht h h' => exact one rfl rfl (.fn f l m xs ys hs ht h h')
  | yld i l h => exact one rfl rfl (.yld i l h)
  | bptr i l h => exact one rfl rfl (.bptr i l h)
  | mptr i l h => exact one rfl rfl (.mptr i l h)
  | mix k rows i n b off cap h hl hp hc => exact one rfl rfl (.mix k rows i n b off cap h hl hp hc)
  | mg k i off len cap b base cap' ad h h1 h2 ha hn hc => exact one rfl rfl (.mg k i off len cap b base cap' ad h h1 h2 ha hn hc)

theorem slice_cells {w : World} {F : Nat → Nat → Prop} {k : Nat} {rows : List (List V)} {x : Value} (h : PR w F (.sl k rows) x) : x.cells = #[x] := by cases h; rfl

theorem box_ok (s : StA E nt φ H ρ ι a w [] []) {X : Operand} {x : AX} (hx : chkX X x = true) {t : TypeId} (ho : o.op = .box t X) (hv : (takeX φ x).1 ≠ .undef) :
    Runs P o a w (After E nt (takeX φ x).2 (H ++ [some (takeX φ x).1.cells]) (.ptr H.length 0) ρ ι a w) := by
  obtain ⟨ρ1, s1, g1⟩ := take_ok s hx
  simp only [List.nil_append] at s1
  have hr := s1.ar 0 _ _ rfl rfl
  have key : ∀ T : Nat → Option (Nat × Nat), (a.eval X).cells.size = (takeX φ x).1.cells.length →
      (∀ (j : Nat) (v : V) (y : Value), (takeX φ x).1.cells[j]? = some v → (a.eval X).cells[j]? = some y → RL w (foot ρ1) ι v y (T j)) →
      (∀ j p, T j = some p → j = 0 ∧ j < (takeX φ x).1.cells.length ∧ ρ1 (.arg 0) = some p) → Runs P o a w (After E nt (takeX φ x).2 (H ++ [some (takeX φ x).1.cells]) (.ptr H.length 0) ρ ι a w) := by
    intro T h1 h2 h3
    obtain ⟨s2, g2⟩ := s1.push (by simp) _ _ t T h1 h2 h3
    refine .value (.pointer (some ⟨w.heap.size, 0, none⟩)) (w1 := w.alloc (.cells (a.eval X).cells t)) (by simp [execOp, ho, Instr.box, newVar, newRow]) ⟨_, _, s2.value ?_, g1.trans g2⟩
    rw [← s.mem.len]
    exact ptr_new _
  rcases own_or (takeX φ x).1 with ⟨k, r, he⟩ | hne
  · rw [he] at hr key ⊢
    refine key (fun j => if j = 0 then ρ1 (.arg 0) else none) (by rw [slice_cells hr.1]; rfl) (fun j v y h1 h2 => ?_) (fun j p h => ?_)
    · rw [slice_cells hr.1] at h2
      cases j with
      | zero => simp [V.cells] at h1 h2; subst h1; subst h2; exact hr
      | succ j => simp at h2
    · by_cases hj : j = 0
      · subst hj; exact ⟨rfl, by simp [V.cells], by simpa using h⟩
      · simp [hj] at h
  · have h0 := (RL_other hne).1 hr
    obtain ⟨h1, h2⟩ := cells_ok h0.1 hv
    exact key (fun _ => none) h1 (fun j v y h h' => (h2 j v y h h').RL) (fun j p h => by cases h)

theorem zeroIs_ok {t : TypeId} {cs : List V} (h : zeroIs P t cs = true) : ∃ i z, P.info? t = some i ∧ i.zero = some z ∧ z.cells.size = cs.length ∧ ∀ (j : Nat) (v : V) (x : Value), cs[j]? = some v → z.cells[j]? = some x → cVal1 x v = true := by
  unfold zeroIs at h
  split at h
  · rename_i i hi
    split at h
    · rename_i z hz
      obtain ⟨h1, h2⟩ := cCells_ok h
      exact ⟨i, z, hi, hz, by simpa using h1, fun j v x hv hx => h2 j v x hv (by simpa using hx)⟩
    · cases h
  · cases h

theorem alloc_ok (s : StA E nt φ H ρ ι a w [] []) {t : TypeId} {zero : List V} (hz : zeroIs P t zero = true) (ho : o.op = .alloc t) :
    Runs P o a w (After E nt φ (H ++ [some zero]) (.ptr H.length 0) ρ ι a w) := by
  obtain ⟨i, z, hi, hz1, hz2, hz3⟩ := zeroIs_ok hz
  obtain ⟨s2, g2⟩ := s.push (by simp) zero z.cells t (fun _ => none) hz2 (fun j v x h h' => cVal1_ok (hz3 j v x h h') _ _ _) (fun j p h => by cases h)
  refine .value (.pointer (some ⟨w.heap.size, 0, none⟩)) (w1 := w.alloc (.cells z.cells t)) (by simp [execOp, ho, Instr.alloc, zeroValue, typeInfo, hi, hz1, newVar, newRow]) ⟨_, _, s2.value ?_, g2⟩
  rw [← s.mem.len]
  exact ptr_new _

theorem bptr_new {w : World} {F : Nat → Nat → Prop} {ι : Places} (n : Nat) : R w F (ι ++ [.lp n]) (.bptr ι.length) (.pointer (some ⟨n, 0, none⟩)) := .bptr _ n (by simp)

/-- A new builder. -/
theorem StA.layb (s : StA E nt φ H ρ ι a w [] []) (T e : Nat) :
    StA E nt φ (H ++ [some [.bld T e []]]) (ρ.put (.blk H.length) (some (w.heap.size, 0))) (ι ++ [.lp w.heap.size]) a (w.alloc (.cells #[.pointer none, .slice none 0 0] T)) [] [] ∧
      Goes ρ ι w (ρ.put (.blk H.length) (some (w.heap.size, 0))) (ι ++ [.lp w.heap.size]) (w.alloc (.cells #[.pointer none, .slice none 0 0] T)) := by
  have hnone : ρ (.blk H.length) = none ∧ ∀ j, ρ (.cell H.length j) = none := s.mem.dead _ (by simp)
  have hinv : ∀ k p, ρ.put (.blk H.length) (some (w.heap.size, 0)) k = some p → (k = .blk H.length ∧ p = (w.heap.size, 0)) ∨ (k ≠ .blk H.length ∧ ρ k = some p) := by
    intro k p h
    by_cases hk : k = .blk H.length
    · subst hk; rw [Own.put_same] at h; exact .inl ⟨rfl, by simpa using h.symm⟩
    · rw [Own.put_other _ _ hk] at h; exact .inr ⟨hk, h⟩
  have hlen := s.mem.len
  have hold : ∀ {b : Nat}, b < w.heap.size → (w.alloc (.cells #[.pointer none, .slice none 0 0] T)).heap[b]? = w.heap[b]? := fun h => Go.RowKit.Below.heap_alloc _ _ _ h
  have g : Goes ρ ι w (ρ.put (.blk H.length) (some (w.heap.size, 0))) (ι ++ [.lp w.heap.size]) (w.alloc (.cells #[.pointer none, .slice none 0 0] T)) := by
    refine .of (kp_alloc _ _ _) (fun i p h => ?_) (fun k b n hm h => ?_) (fun _ => Own.put_other _ _ (by simp)) (fun b hb => .of_eq (hold hb))
    · rw [List.getElem?_append_left (get_some h)]; exact h
    · rcases hinv k _ h with ⟨_, h1⟩ | ⟨_, h1⟩
      · simp at h1; exact .inl (by omega)
      · exact .inr ⟨_, n, hm, h1, Nat.le_refl _⟩
  have hnew : (ι ++ [Place.lp w.heap.size])[H.length]? = some (.lp w.heap.size) := by rw [← hlen]; simp
  refine ⟨⟨s.sz, s.df.kp g.kp, fun q => by rw [Own.put_other _ _ (by simp)]; exact (s.sl q).ext g (Own.put_other _ _ (by simp)), rfl, fun j v x hv hx => by simp at hv, fun j hj => by rw [Own.put_other _ _ (by simp)]; exact s.an j (by simp), ⟨by simp [hlen], fun i vs hi hne => ?_, fun i vs l' hi hl' => ?_, fun i hi => ?_, fun i vs j hi hj => ?_, s.mem.glo.ext g, fun N hN => by have := s.mem.lim N hN; simp; omega⟩, ⟨fun q q' b n n' h h' => ?_, fun q b n h => ?_⟩, s.wd⟩, g⟩
  · rcases Nat.lt_trichotomy i H.length with h | h | h
    · rw [List.getElem?_append_left h] at hi
      obtain ⟨b, base, c, t, fr, h1, h2, h3, h4, h5, h6⟩ := s.mem.blk i vs hi (fun l' hl' => hne l' (by rw [List.getElem?_append_left (by omega)]; exact hl'))
      refine ⟨b, base, c, t, fr, g.io _ _ h1, by rw [Own.put_other _ _ (by simp; omega)]; exact h2, by rw [hold (lt_of_obj h3)]; exact h3, h4, fun o h1 h2 => by rw [Marks0.of_eq (hold (lt_of_obj h3))]; exact h5 o h1 h2, fun j v hj => ?_⟩
      obtain ⟨x, hx, hrl, hu⟩ := h6 j v hj
      exact ⟨x, hx, by rw [Own.put_other _ _ (by simp)]; exact hrl.ext g (Own.put_other _ _ (by simp)), hu⟩
    · subst h; exact absurd hnew (hne _)
    · rw [List.getElem?_eq_none (by simp; omega)] at hi; cases hi
  · rcases Nat.lt_trichotomy i H.length with h | h | h
    · rw [List.getElem?_append_left h] at hi
      rw [List.getElem?_append_left (by omega)] at hl'
      exact (s.mem.rcd i vs l' hi hl').ext g (Own.put_other _ _ (by simp; omega)) (fun _ => Own.put_other _ _ (by simp)) (fun _ b n _ hb => hold (s.sep.here _ _ _ hb))
    · subst h
      simp at hi
      subst hi
      rw [hnew] at hl'
      simp only [Option.some.injEq, Place.lp.injEq] at hl'
      subst hl'
      exact .inr (.inl ⟨T, e, [], rfl, by simp, fun j _ => by rw [Own.put_other _ _ (by simp)]; exact hnone.2 j, .pointer none, .slice none 0 0, heap_alloc_new w _, .inl rfl, .inl ⟨rfl, rfl, by rw [Own.put_other _ _ (by simp)]; exact hnone.2 0⟩⟩)
    · rw [List.getElem?_eq_none (by simp; omega)] at hi; cases hi
  · have h1 : i ≠ H.length := by
      rintro rfl
      exact hi [.bld T e []] (by simp)
    have h2 := s.mem.dead i (fun ws hw => hi ws (by rw [List.getElem?_append_left (get_some hw)]; exact hw))
    exact ⟨by rw [Own.put_other _ _ (by simp; omega)]; exact h2.1, fun j => by rw [Own.put_other _ _ (by simp)]; exact h2.2 j⟩
  · rw [Own.put_other _ _ (by simp)]
    by_cases h1 : i = H.length
    · subst h1; exact hnone.2 j
    · have : i < H.length := by have := get_some hi; simp at this; omega
      rw [List.getElem?_append_left this] at hi
      exact s.mem.past i vs j hi hj
  · rcases hinv q _ h with ⟨rfl, h1⟩ | ⟨h0, h1⟩ <;> rcases hinv q' _ h' with ⟨rfl, h2⟩ | ⟨h0', h2⟩
    · rfl
    · simp only [Prod.mk.injEq] at h1; have := s.sep.here _ _ _ h2; omega
    · simp only [Prod.mk.injEq] at h2; have := s.sep.here _ _ _ h1; omega
    · exact s.sep.one _ _ _ _ _ h1 h2
  · rcases hinv q _ h with ⟨_, h1⟩ | ⟨_, h1⟩
    · simp only [Prod.mk.injEq] at h1; simp; omega
    · have := s.sep.here _ _ _ h1; simp; omega

theorem allocb_ok (s : StA E nt φ H ρ ι a w [] []) {t : TypeId} {e : Nat} (hz : zeroIs P t [.nilp, .own 1 []] = true) (ho : o.op = .alloc t) :
    Runs P o a w (After E nt φ (H ++ [some [.bld t e []]]) (.bptr H.length) ρ ι a w) := by
  obtain ⟨i, z, hi, hz1, hz2, hz3⟩ := zeroIs_ok hz
  obtain ⟨s2, g2⟩ := s.layb t e
  have hzc : z.cells = #[.pointer none, .slice none 0 0] := by
    have h0 : z.cells.size = 2 := hz2
    have q0 := hz3 0 .nilp (z.cells[0]'(by omega)) rfl (by simp)
    have q1 := hz3 1 (.own 1 []) (z.cells[1]'(by omega)) rfl (by simp)
    have e0 : z.cells[0]'(by omega) = .pointer none := by
      generalize z.cells[0]'(by omega) = y at q0
      unfold cVal1 at q0
      split at q0 <;> simp_all
    have e1 : z.cells[1]'(by omega) = .slice none 0 0 := by
      generalize z.cells[1]'(by omega) = y at q1
      unfold cVal1 at q1
      split at q1 <;> simp_all
    apply Array.ext
    · simpa using h0
    · intro j h1 h2
      match j, h1 with
      | 0, _ => exact e0
      | 1, _ => exact e1
      | j + 2, h1 => omega
  refine .value (.pointer (some ⟨w.heap.size, 0, none⟩)) (w1 := w.alloc (.cells #[.pointer none, .slice none 0 0] t)) (by rw [← hzc]; simp [execOp, ho, Instr.alloc, zeroValue, typeInfo, hi, hz1, newVar, newRow]) ⟨_, _, s2.value ?_, g2⟩
  rw [← s.mem.len]
  exact bptr_new _

end
end Go.AM
