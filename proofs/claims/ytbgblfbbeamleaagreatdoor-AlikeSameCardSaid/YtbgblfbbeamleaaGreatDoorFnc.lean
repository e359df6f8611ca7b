/-
  What a function over no memory of ours answers: the whole relation, not only a law's true. And steps of regions by hand.
-/
import Derived.Test.YtbgblfbbeamleaaGreatDoorExt
namespace Go.AM
open Go.RowKit
set_option linter.unusedVariables false

section
variable {P : Program}

theorem fn_calls {tbl : Tbl} {ext : Ext} (htbl : ∀ k af, tbl k = some af → k < yBase → (∃ fn, P.funcs[k]? = some fn ∧ chkF P fn af = true) ∧ LabC tbl af.body)
    (htblW : ∀ k af, tbl (wTab k) = some af → (∃ fn, P.funcs[k]? = some fn ∧ chkW P fn af = true) ∧ LabC tbl af.body)
    (hext : ∀ lim k e, ext k = some e → ∀ args H r H', e args H = some (r, H') → RealCall (EL P tbl lim) P k args H r H') {f n : Nat} (hfy : f < yBase) {args : List V} {r : V} {H' : Heap}
    (h : run tbl ext n f args [] = some (r, H')) (w : World) (hg : VarsOK (globs P) (tabs P) w) (xs : Array Value) (hl : xs.size = args.length) (hx : ∀ (j : Nat) (v : V) (x : Value), args[j]? = some v → xs[j]? = some x → R w (fun _ _ => False) [] v x) :
    Calls P f xs w fun e w' => ∃ x, e = .returned x ∧ (∃ F ι tl, RL w' F ι r x tl) ∧ Below w.heap.size w w' := by
  have hfalse : foot (fun _ => none) = fun _ _ => False := by
    funext b o
    exact propext ⟨fun ⟨_, _, h, _⟩ => (by cases h), fun h => h.elim⟩
  refine (((run_sound htbl htblW hext (fun lim => drw_ok) n _ _ _ _ _ h (some 0) (fun h => by rw [wideNo_lt hfy] at h; cases h)).2 w (fun _ => none) [] xs ⟨rfl, fun i vs h => by simp at h, fun i vs l h => by simp at h, fun _ _ => ⟨rfl, fun _ => rfl⟩, fun _ _ _ _ _ => rfl, ⟨fun g hg' => ⟨hg.1 g hg', fun _ _ _ h => (by cases h)⟩, fun p hp => ⟨hg.2 p hp, tab_here hg hp, fun _ _ _ h => (by cases h)⟩⟩, fun N hN => by cases hN; exact Nat.le_refl _⟩ ⟨fun _ _ _ _ _ h => (by cases h), fun _ _ _ h => (by cases h)⟩ hl (fun j v x hv hy => ?_) (fun _ _ => rfl) (fun _ => rfl)).calls hfy).mono ?_
  · rw [hfalse]; exact R.RL (hx j v x hv hy)
  · rintro e w' ⟨x, ρ', ι', rfl, _, _, hR, _, _, g⟩
    refine ⟨x, rfl, ⟨_, _, _, hR⟩, ⟨g.kp.os, g.kp.tape, g.kp.output, g.kp.size, fun k hk => ?_⟩⟩
    have := g.kp.obj k hk
    unfold ObjKp at this
    split at this
    · rename_i c t fr he
      obtain ⟨c', fr', h1, h2, h3, h4⟩ := this
      rw [h1, he, h4 (fun _ h => by obtain ⟨_, _, _, h, _⟩ := h; cases h)]
      congr 2
      apply Array.ext h2
      intro i hi1 hi2
      have := h3 i (fun h => by obtain ⟨_, _, _, h, _⟩ := h; cases h)
      rw [Array.getElem?_eq_getElem hi1, Array.getElem?_eq_getElem hi2] at this
      exact Option.some.inj this
    · rename_i r he
      obtain ⟨r', h1, h2⟩ := this
      rw [h1, he, h2 (fun h => by obtain ⟨_, _, _, h, _⟩ := h; cases h)]
    · rename_i es n he
      obtain ⟨es', n', h1, h2⟩ := this
      have h2 := h2 (fun h => by obtain ⟨_, _, _, h, _⟩ := h; cases h)
      rw [h1, he, h2.1, h2.2]
    · exact this

variable {ops : Array Oper} {Q : Exit → Act → World → Prop} {o : Oper} {rest : List Oper} {a : Act} {w w' : World}

theorem wl_val {v : Value} (hg : o.guard = none) (hr : (execOp a.eval o).run P w = .ok (.value v) w') (k : wpList P ops Q rest (a.put o.dst v) w') : wpList P ops Q (o :: rest) a w :=
  wpList_plain hg fun K hK => by unfold Oper.wp; rw [hr]; exact hK _ _ k

theorem wl_skip (hg : o.guard = none) (hr : (execOp a.eval o).run P w = .ok .skip w') (k : wpList P ops Q rest (a.put o.dst undef) w') : wpList P ops Q (o :: rest) a w :=
  wpList_plain hg fun K hK => by unfold Oper.wp; rw [hr]; exact hK _ _ k

theorem wl_call {f : FuncId} {args : Array Value} (hg : o.guard = none) (hr : (execOp a.eval o).run P w = .ok (.enter f args) w') (k : Calls P f args w' fun e w'' => ∃ v, e = .returned v ∧ wpList P ops Q rest (a.put o.dst v) w'') : wpList P ops Q (o :: rest) a w :=
  wpList_plain hg fun K hK => by
    unfold Oper.wp; rw [hr]
    refine Calls.mono k ?_
    rintro e w'' ⟨v, rfl, h⟩
    exact hK _ _ h

theorem run_alloc0 {t : TypeId} {cs : List V} (hz : zeroIs P t cs = true) (ho : o.op = .alloc t) (w : World) : ∃ z : Array Value, z.size = cs.length ∧ (execOp a.eval o).run P w = .ok (.value (.pointer (some ⟨w.heap.size, 0, none⟩))) (w.alloc (.cells z t)) := by
  obtain ⟨i, z, hi, hz1, hz2, _⟩ := zeroIs_ok hz
  exact ⟨z.cells, hz2, by simp [execOp, ho, Instr.alloc, zeroValue, typeInfo, hi, hz1, newVar, newRow]⟩

theorem unfrozen0 {w : World} {b : Nat} {c : Array Value} {t : TypeId} (h : w.heap[b]? = some (.cells c t (0, 0))) (o : Nat) : w.frozen? ⟨b, o, none⟩ = false := by
  unfold World.frozen?
  simp [h]

theorem run_store0 {t : TypeId} {n : Nat} (ht : sizeIs P t n = true) {b off : Nat} {xs : Array Value} (hn : xs.size = n) (h1 : ∀ x ∈ xs.toList, x.oneCell' = true)
    {c : Array Value} {u : TypeId} (hrow : w.heap[b]? = some (.cells c u (0, 0))) (hsz : off + n ≤ c.size) :
    ∃ w', (∀ (o : Oper) (a : Act) (X Y : Operand), o.op = .store t X Y → a.eval X = .pointer (some ⟨b, off, none⟩) → a.eval Y = .agg xs → (execOp a.eval o).run P w = .ok .skip w') ∧ Wrote w w' b off xs.toList := by
  obtain ⟨w', run, hw⟩ := run_storeCells (P := P) xs.toList off 0 w c u _ hrow (by simp; omega) (fun o _ _ => unfrozen0 hrow o) h1
  rw [Nat.add_zero] at hw
  refine ⟨w', fun o a X Y ho hX hY => ?_, hw⟩
  simp [execOp, ho, hX, hY, Value.cells, Instr.storeAt, Instr.sureAddr, storeVar, run_sizeOf ht, hn, run]

theorem run_load0 {t : TypeId} {n : Nat} (ht : aggIs P t (some n) = true) {X : Operand} (ho : o.op = .load t X) {b off : Nat} {xs : Array Value} (hX : a.eval X = .pointer (some ⟨b, off, none⟩)) (hn : xs.size = n)
    (hc : ∀ j, (h : j < xs.size) → w.cell? ⟨b, off + j, none⟩ = some xs[j]) : (execOp a.eval o).run P w = .ok (.value (.agg xs)) w := by
  have hg := aggIs_ok ht w
  have hl := run_loadCells (P := P) w ⟨b, off, none⟩ n (fun j => xs.getD j Go.undef) (fun j hj => by
    rw [add_eq, hc j (by omega)]
    simp [Array.getD, show j < xs.size by omega])
  have he : ((List.range n).map fun j => xs.getD j Go.undef).toArray = xs := by
    apply Array.ext
    · simp [hn]
    · intro i h1 h2
      simp [Array.getD, h2]
  rw [he] at hl
  simp [execOp, ho, hX, Instr.loadAt, Instr.sureAddr, loadVar, hg.1, run_sizeOf hg.2, hl]

theorem run_loadVar0 {t : TypeId} {n : Nat} (ht : aggIs P t (some n) = true) {b off : Nat} {xs : Array Value} (hn : xs.size = n)
    (hc : ∀ j, (h : j < xs.size) → w.cell? ⟨b, off + j, none⟩ = some xs[j]) : (loadVar t ⟨b, off, none⟩).run P w = .ok (.agg xs) w := by
  have hg := aggIs_ok ht w
  have hl := run_loadCells (P := P) w ⟨b, off, none⟩ n (fun j => xs.getD j Go.undef) (fun j hj => by
    rw [add_eq, hc j (by omega)]
    simp [Array.getD, show j < xs.size by omega])
  have he : ((List.range n).map fun j => xs.getD j Go.undef).toArray = xs := by
    apply Array.ext
    · simp [hn]
    · intro i h1 h2
      simp [Array.getD, h2]
  rw [he] at hl
  simp [loadVar, hg.1, run_sizeOf hg.2, hl]

/-- One result, in a cell. -/
theorem run_result0 {fn : Func} {c : Tmp} {t : TypeId} (hr : fn.results = #[.cell c t]) {tmps : Array Value} {ad : Addr} (ha : tmps.getD c Go.undef = .pointer (some ad)) {v : Value} (hl : (loadVar t ad).run P w = .ok v w) : (results fn tmps).run P w = .ok v w := by
  have ha' : tmps[c]?.getD Go.undef = .pointer (some ad) := by rw [← ha, Array.getD_eq_getD_getElem?]
  simp [results, hr, Array.mapM_eq_mapM_toList, ha', asAddr, hl]

theorem Wrote.cells {w w' : World} {b off : Nat} {xs : Array Value} (h : Wrote w w' b off xs.toList) {c : Array Value} {t : TypeId} {fr : Nat × Nat} (hb : w.heap[b]? = some (.cells c t fr)) (hs : off + xs.size ≤ c.size) :
    (∃ c', w'.heap[b]? = some (.cells c' t fr) ∧ c'.size = c.size) ∧ ∀ j, (hj : j < xs.size) → w'.cell? ⟨b, off + j, none⟩ = some xs[j] := by
  obtain ⟨c', h1, h2, h3⟩ := h.row c t fr hb
  refine ⟨⟨c', h1, h2⟩, fun j hj => ?_⟩
  rw [cell_of_obj h1, h3 (off + j) (by omega), if_pos (by simp; omega)]
  simp [hj]

theorem Wrote.below {w w' : World} {b off : Nat} {xs : List Value} (h : Wrote w w' b off xs) {B : Nat} (hB : B ≤ b) : Below B w w' :=
  ⟨h.os, h.tape, h.output, by have := h.size; omega, fun k hk => h.other k (by omega)⟩

/-- Integers of one kind, as a struct's or an array's cells. -/
theorem R_ints {w : World} {F : Nat → Nat → Prop} {ι : Places} {k : IntKind} {l : List Int} {x : Value} (h : R w F ι (.agg (l.map (V.int k))) x) : x = .agg (l.map (Value.int k)).toArray := by
  obtain ⟨xs, rfl, hs, hv⟩ := h.agg_inv
  congr 1
  apply Array.ext (by simpa using hs)
  intro i h1 h2
  have hi : i < l.length := by simpa using h2
  have := (hv i (.int k l[i]) xs[i] (by simp [hi]) (by simp [h1])).int_inv
  rw [this]
  simp

end
end Go.AM
