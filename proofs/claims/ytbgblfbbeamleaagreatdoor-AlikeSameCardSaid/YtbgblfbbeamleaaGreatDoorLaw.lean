/-
  A row's last step, where the law's call leaves all that was there below as it was: shown for every row whose arguments hold no memory that is written.
-/
import Derived.Test.YtbgblfbbeamleaaGreatDoorRows
import Derived.WalkKit
import Derived.ProofKit
import Derived.OpenShut
import Derived.ShutString
import Derived.Test.YtbgblfbbeamleaaGreatDoorDrw
import Derived.Test.YtbgblfbbeamleaaGreatDoorLim
namespace Go.AM
open Go.ChangeShapes Go.WideShapes Go.ChangeAt Go.RowKit
set_option linter.unusedVariables false

section
variable {H : Type} {enc : TypeId × Value → H} {P : Program}

theorem post_below {f : Func} {s : ChangeSpec} {apart fresh handsOn : Bool} {W W' : World} {args : Array Value} {v : Value} {ds gs : List (DataW H)} {before pa pv : List MemPlace}
    (hW : DataW.Whole enc P f.params.toList s.vars apart W args.toList ds gs before)
    (hres : ∀ (b : Nat) (sp : Nat → Bool) (hd : Bool), DataW.TrodAll enc P W' b sp hd f.resultTypes.toList (v.resultList f.resultTypes.size) (s.fn H (ds ++ gs)).results [])
    (hargs : ∀ sp : Nat → Bool, (∀ p ∈ before, sp p.block = true) → DataW.TrodAll enc P W' 0 sp true f.params.toList args.toList (s.fn H (ds ++ gs)).args pa)
    (hvars : ∀ sp : Nat → Bool, (∀ p ∈ before, sp p.block = true) → DataW.TrodVars enc P W' sp s.vars (s.fn H (ds ++ gs)).vars pv)
    (hps : before = pa ++ pv) (hb : Below W.heap.size W W') :
    s.post enc P f apart fresh handsOn false W args v W' := by
  have hlt : ∀ p ∈ before, p.block < W.heap.size := fun p hp => hW.lt p hp
  have hold : ∀ p ∈ before, (fun b => decide (b < W.heap.size)) p.block = true := fun p hp => by simpa using hlt p hp
  refine ⟨ds, gs, before, [], pa, pv, hW, hres _ _ _, hargs _ hold, hvars _ hold, World.keptBut_mono (fun p hp => ⟨hp, ?_⟩) (hb.frame (· ∈ before)), fun h => by cases h⟩
  rw [hps, List.mem_append] at hp
  exact Or.inr hp
end

/-- What the evaluator answers, the program's call answers, and leaves all that was there below. -/
theorem law_eval {P : Program} {tbl : Tbl} {ext : Ext} (htbl : ∀ k af, tbl k = some af → k < yBase → (∃ fn, P.funcs[k]? = some fn ∧ chkF P fn af = true) ∧ LabC tbl af.body)
    (htblW : ∀ k af, tbl (wTab k) = some af → (∃ fn, P.funcs[k]? = some fn ∧ chkW P fn af = true) ∧ LabC tbl af.body)
    (hext : ∀ lim k e, ext k = some e → ∀ args H r H', e args H = some (r, H') → RealCall (EL P tbl lim) P k args H r H') (hdrw : ∀ lim nt call, CallOK (EL P tbl lim) P call → DrwOK (EL P tbl lim) P nt call) {f : Nat} (hfy : f < yBase) {args : List V} {H' : Heap}
    (h : eval tbl ext f args [] = some (.bool true, H')) (w : World) (hg : VarsOK (globs P) (tabs P) w) (xs : Array Value) (hl : xs.size = args.length) (hx : ∀ (j : Nat) (v : V) (x : Value), args[j]? = some v → xs[j]? = some x → R w (fun _ _ => False) [] v x) :
    Calls P f xs w fun e w' => e = .returned (.bool true) ∧ Below w.heap.size w w' := by
  obtain ⟨n, hn⟩ := (eval_iff tbl ext f args [] _).1 h
  refine (law_calls htbl htblW hext hdrw hfy hn w hg xs hl hx).mono ?_
  rintro e w' ⟨x, rfl, h1, h2⟩
  rw [h1 true rfl]
  exact ⟨rfl, h2⟩

/-- Of a wide form: what the evaluator answers, the program's call answers, and leaves all that was there below. -/
theorem law_evalW {P : Program} {tbl : Tbl} {ext : Ext} (htbl : ∀ k af, tbl k = some af → k < yBase → (∃ fn, P.funcs[k]? = some fn ∧ chkF P fn af = true) ∧ LabC tbl af.body)
    (htblW : ∀ k af, tbl (wTab k) = some af → (∃ fn, P.funcs[k]? = some fn ∧ chkW P fn af = true) ∧ LabC tbl af.body)
    (hext : ∀ lim k e, ext k = some e → ∀ args H r H', e args H = some (r, H') → RealCall (EL P tbl lim) P k args H r H') (hdrw : ∀ lim nt call, CallOK (EL P tbl lim) P call → DrwOK (EL P tbl lim) P nt call) {f : Nat} {args : List V} {H' : Heap}
    (h : eval tbl ext (wNo f) args [] = some (.bool true, H')) (w : World) (hg : VarsOK (globs P) (tabs P) w) (xs : Array Value) (hl : xs.size = args.length) (hx : ∀ (j : Nat) (v : V) (x : Value), args[j]? = some v → xs[j]? = some x → R w (fun _ _ => False) [] v x) :
    Calls P f xs w fun e w' => e = .returned (.bool true) ∧ Below w.heap.size w w' := by
  obtain ⟨n, hn⟩ := (eval_iff tbl ext (wNo f) args [] _).1 h
  refine (law_callsW htbl htblW hext hdrw hn w hg xs hl hx).mono ?_
  rintro e w' ⟨x, rfl, h1, h2⟩
  rw [h1 true rfl]
  exact ⟨rfl, h2⟩

theorem str_pr {w : World} {F : Nat → Nat → Prop} (a : ByteArray) : PR w F (.str a.data.toList) (.string a) := by
  have := PR.str (w := w) (F := F) a.data.toList
  simpa using this

end Go.AM
