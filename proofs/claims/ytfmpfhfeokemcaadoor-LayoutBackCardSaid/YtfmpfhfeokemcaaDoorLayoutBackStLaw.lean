/-
  The law 'LayoutBack' of flotsamlaw07 is true for every input, where the listed variables of Go's library read as its text lays them: the row and its tied card, the given statement 'LayoutBackCardSaid'.
-/
import Derived.Test.YtfmpfhfeokemcaaDoorLayP
import Derived.Lib.LaidTab
import Derived.Test.YtfmpfhfeokemcaaDoorXts
import Derived.HandedShaped
import Derived.Shelf.Vars
import Derived.Test.YtfmpfhfeokemcaaDoorCards
import Derived.Test.YtfmpfhfeokemcaaDoorTie
import Derived.SevenTiedAt
import Derived.Lay
import Derived.WalkKit
import Derived.ProofKit
import Derived.OpenShut
import Derived.ShutString
import Derived.Carry
import Derived.Test.YtfmpfhfeokemcaaDoorCheck
import Derived.Test.YtfmpfhfeokemcaaDoorLaw
import Derived.Test.YtfmpfhfeokemcaaDoorDoor
import Derived.Test.YtfmpfhfeokemcaaDoorLayIno
namespace Go.Proofs.YtfmpfhfeokemcaaDoor.layoutBack
open Go.ChangeShapes Go.WideShapes Go.ChangeAt Go.RowKit
open Go.AM
open Go.ChangeMaps (open_string shut_string)
set_option linter.unusedVariables false
set_option linter.unusedSimpArgs false

theorem own : ownKnob Tryd.prog.godebug = none := by kernel_rfl
theorem laidOut : laidOutB Tryd.prog = true := by kernel_rfl
theorem globals (w : World) (h : w.ShapedOpen Tryd.prog) : ∀ g ∈ globs Tryd.prog, ∃ m : Int, w.cell? ⟨g, 0, none⟩ = some (.int .i64 m) := by
  intro g hg
  have he : globs Tryd.prog = [2] := by kernel_rfl
  rw [he] at hg
  obtain rfl := List.mem_singleton.1 hg
  exact cell_of_shapedOpen_int (zero := #[.int .i64 0]) (t := 3) h (of_decide_eq_true (by kernel_rfl)) (by kernel_rfl) rfl (by kernel_rfl) (by kernel_rfl) Tryd.underlying3

def laid : List (String × DataW Unit) := [("unicode/utf8.acceptRanges", Rows.laid_unicode_utf8_acceptRanges), ("unicode/utf8.first", Rows.laid_unicode_utf8_first)]

theorem tables (w : World) (h : laidMetH Tryd.prog laid w) : ∀ p ∈ tabs Tryd.prog, ∀ (j : Nat) (x : Value), p.2[j]? = some x → w.cell? ⟨p.1, j, none⟩ = some x := by
  intro p hp
  have he : tabIds Tryd.prog = [] := by kernel_rfl
  unfold tabs at hp
  rw [he] at hp
  cases hp

def ltys : List TypeId := [3, 4, 5, 9, 22, 24, 26, 39]
theorem lplain : ∀ t ∈ ltys, plainAt Tryd.prog ltys t = true := List.all_eq_true.1 (show ltys.all (plainAt Tryd.prog ltys) = true by kernel_rfl)

theorem walk (e0 : Spec.Ino) (x0 : Value) (e1 : Spec.Ino) (x1 : Value) (e2 : Spec.En) (x2 : Value) (l3 : List UInt8) (k3 : l3.length = 32) (x3 : Value) (w : World) (hgl : VarsOK (globs Tryd.prog) (tabs Tryd.prog) w)     (r0 : R w (fun _ _ => False) [] (.agg e0.cells) x0) (r1 : R w (fun _ _ => False) [] (.agg e1.cells) x1) (r2 : R w (fun _ _ => False) [] (.agg e2.cells) x2) (r3 : R w (fun _ _ => False) [] (.agg (Spec.bys l3)) x3)  :
    Calls Tryd.prog 6 #[x0, x1, x2, x3] w fun e w' => e = .returned (.bool true) ∧ Below w.heap.size w w' := by
  obtain ⟨_, he⟩ := Spec.LayoutBack_all e0 e1 e2 l3 k3
  refine law_eval fits exts.exts_ok drw_ok lt_flotsamlaw07_LayoutBack he w hgl _ rfl ?_
  intro j v x hv hx
  rcases j with _ | j
  · simp only [List.getElem?_cons_succ, List.getElem?_cons_zero, Option.some.injEq] at hv; subst hv; simp at hx; subst hx; exact r0
  rcases j with _ | j
  · simp only [List.getElem?_cons_succ, List.getElem?_cons_zero, Option.some.injEq] at hv; subst hv; simp at hx; subst hx; exact r1
  rcases j with _ | j
  · simp only [List.getElem?_cons_succ, List.getElem?_cons_zero, Option.some.injEq] at hv; subst hv; simp at hx; subst hx; exact r2
  rcases j with _ | j
  · simp only [List.getElem?_cons_succ, List.getElem?_cons_zero, Option.some.injEq] at hv; subst hv; simp at hx; subst hx; exact r3
  simp at hv

set_option maxRecDepth 100000 in
theorem lifted (os : Os) (started : os.Started) (H : Type) (enc : TypeId × Value → H) :
    ReturnsInHanded {} Tryd.checked os 6 .any (fun w args => (Rows.layoutBackSpec.pre enc Tryd.prog Tryd.f6 [] false w args ∧ laidMetH Tryd.prog laid w) ∧ sizedMet enc Tryd.prog Tryd.f6 (OpenSpec.ofChange Rows.layoutBackSpec) false w args)
      (Rows.layoutBackSpec.post enc Tryd.prog Tryd.f6 false true false false) := by
  refine returns_door (C := Tryd.checked) (X := fun w _ => laidMetH Tryd.prog laid w) (fun _ _ _ hh h => h.of_heap hh) own started (by kernel_rfl) Tryd.func6
    (ChangeSpec.witness_shaped (enc := enc) (C := Tryd.checked) (os := os) (X := fun w _ => laidMetH Tryd.prog laid w) false (World.laidAll Tryd.prog os laid) #[.agg #[.int .i64 0, .int .i64 0, .int .i64 0, .int .i64 0, .int .i64 0, .int .i64 0], .agg #[.int .i64 0, .int .i64 0, .int .i64 0, .int .i64 0, .int .i64 0, .int .i64 0], .agg #[.bool false, .int .i64 0, .string ByteArray.empty, .int .i64 0], .agg #[.int .u8 0, .int .u8 0, .int .u8 0, .int .u8 0, .int .u8 0, .int .u8 0, .int .u8 0, .int .u8 0, .int .u8 0, .int .u8 0, .int .u8 0, .int .u8 0, .int .u8 0, .int .u8 0, .int .u8 0, .int .u8 0, .int .u8 0, .int .u8 0, .int .u8 0, .int .u8 0, .int .u8 0, .int .u8 0, .int .u8 0, .int .u8 0, .int .u8 0, .int .u8 0, .int .u8 0, .int .u8 0, .int .u8 0, .int .u8 0, .int .u8 0, .int .u8 0]] 8 (World.laidAll_os _ _ _)
      (World.shaped_of_ZipB (by kernel_rfl) (by kernel_rfl)) (by kernel_rfl) (by kernel_rfl) (by kernel_rfl)
      (by rw [MakeChecks.laidMetH_plain _ _ _ (by kernel_rfl)]; exact laidMet_laidAll _ (by kernel_rfl) (by kernel_rfl))) ?_
  intro W base args ds gs before hval0 hW _ hsh hlaid
  have hval : ∀ (j : Nat) t v, Tryd.f6.params[j]? = some t → args[j]? = some v → Value.okWide Tryd.prog W .any base t v := hval0
  have hW' := hW
  obtain ⟨p, q, hA0, hV, rfl, hfz, hnd⟩ := hW
  have hA : DataW.TrodAll enc Tryd.prog W 0 (fun _ => true) true Tryd.f6.params.toList args.toList ds p := hA0
  rw [Tryd.params6] at hA hval
  obtain ⟨v0, vs0, d0, ds0, p0, q0, hargs, rfl, rfl, h0, r0⟩ := trodAll_cons hA
  obtain ⟨v1, vs1, d1, ds1, p1, q1, rfl, rfl, rfl, h1, r1⟩ := trodAll_cons r0
  obtain ⟨v2, vs2, d2, ds2, p2, q2, rfl, rfl, rfl, h2, r2⟩ := trodAll_cons r1
  obtain ⟨v3, vs3, d3, ds3, p3, q3, rfl, rfl, rfl, h3, r3⟩ := trodAll_cons r2
  obtain ⟨rfl, rfl, rfl⟩ := trodAll_nil r3
  obtain rfl : args = #[v0, v1, v2, v3] := by cases args; simp_all
  obtain ⟨rfl, rfl⟩ := trodVars_none hV
  obtain ⟨c0, ty0, R0⟩ := open_struct lplain (by decide) Tryd.underlying24 (hval 0 24 v0 rfl rfl) h0
  obtain ⟨e0, rfl⟩ := Spec.ino_of ty0 Tryd.underlying24 rfl Tryd.underlying3 Tryd.underlying22
  obtain ⟨c1, ty1, R1⟩ := open_struct lplain (by decide) Tryd.underlying24 (hval 1 24 v1 rfl rfl) h1
  obtain ⟨e1, rfl⟩ := Spec.ino_of ty1 Tryd.underlying24 rfl Tryd.underlying3 Tryd.underlying22
  obtain ⟨c2, ty2, R2⟩ := open_struct lplain (by decide) Tryd.underlying39 (hval 2 39 v2 rfl rfl) h2
  obtain ⟨e2, rfl⟩ := Spec.ent_of ty2 Tryd.underlying39 rfl Tryd.underlying4 Tryd.underlying3 Tryd.underlying9
  obtain ⟨c3, ty3, R3⟩ := open_array lplain (by decide) Tryd.underlying26 (hval 3 26 v3 rfl rfl) h3
  obtain ⟨l3, rfl, ok3⟩ := Spec.sec_of ty3 Tryd.underlying26 Tryd.underlying5
  clear hA0 hval0
  simp only [List.append_nil] at hW'
  have hlt := fun x hx => DataW.Whole.lt hW' x hx
  refine (walk e0 v0 e1 v1 e2 v2 l3 ok3 v3 W ⟨globals W hsh, tables W hlaid⟩ R0 R1 R2 R3).mono fun e W' ⟨he, hg⟩ => ?_
  subst he
  refine ⟨_, rfl, post_below (pa := _) (pv := []) hW' (fun _ _ _ => (trodAll_cons_mk (shut_bool Tryd.underlying4 _) trodAll_mk0)) (fun sp hsp => (trodAll_cons_mk (WideElems.Trod_stays laidOut (by kernel_rfl) (of_decide_eq_true (by kernel_rfl)) h0 (fun x hx => hg.same (hlt x (by simp [hx]))) (fun x hx => hsp x (by simp [hx]))) (trodAll_cons_mk (WideElems.Trod_stays laidOut (by kernel_rfl) (of_decide_eq_true (by kernel_rfl)) h1 (fun x hx => hg.same (hlt x (by simp [hx]))) (fun x hx => hsp x (by simp [hx]))) (trodAll_cons_mk (WideElems.Trod_stays laidOut (by kernel_rfl) (of_decide_eq_true (by kernel_rfl)) h2 (fun x hx => hg.same (hlt x (by simp [hx]))) (fun x hx => hsp x (by simp [hx]))) (trodAll_cons_mk (WideElems.Trod_stays laidOut (by kernel_rfl) (of_decide_eq_true (by kernel_rfl)) h3 (fun x hx => hg.same (hlt x (by simp [hx]))) (fun x hx => hsp x (by simp [hx]))) trodAll_mk0))))) (fun _ _ => rfl) ?_ hg⟩
  simp

theorem over : Rows.layoutBackRow.holds Tryd.pinned (OpenSpec.ofChange Rows.layoutBackSpec) :=
  OpenClaim.holds_of_wide 6 Tryd.f6 rfl rfl rfl rfl rfl rfl rfl ⟨rfl, rfl, rfl, rfl, rfl⟩ rfl rfl rfl rfl rfl (by kernel_rfl) Tryd.func6 (by kernel_rfl)
    (of_decide_eq_true (by kernel_rfl)) (by unfold Func.isWrapper; first | (rw [if_pos (by decide +kernel)]; kernel_rfl) | (rw [if_neg (by decide +kernel)]; exact ⟨rfl, rfl⟩))
    (fun os started H enc _ => lifted os started H enc)

/-- ████ THE STATEMENT ████ -/
theorem proved : Rows.LayoutBackCardSaid :=
  Claim7.holds_tied_plain_at .later [] [.data, .pinned] true (true, "20fe71080393adc18dbeaaa3ac5430dd236214026f97073d93799e48a0a9a37f") false over (fun _ h => by cases h) (by kernel_rfl) (fun _ h => by cases h) layoutBack_row_tie rfl ⟨rfl, rfl⟩ (by kernel_rfl) rfl
    (fun f fn hf hfn => by
      obtain rfl : f = 6 := Option.some.inj ((show Tryd.prog.funcNamed "flotsam/flotsamlaw07.LayoutBack" = some 6 by kernel_rfl).symm.trans hf) |>.symm
      obtain rfl : fn = Tryd.f6 := (Option.some.inj (Tryd.func6.symm.trans hfn)).symm
      exact ⟨by kernel_rfl, fun j t ht => by
        rw [Tryd.params6] at ht
        have hm : t ∈ [24, 24, 39, 26] := by simpa using Array.mem_of_getElem? ht
        have hall : ([24, 24, 39, 26].all fun u => !Tryd.prog.wantsStandIn u) = true := by kernel_rfl
        exact (show Tryd.prog.wantsStandIn t = false by simpa using List.all_eq_true.1 hall t hm)⟩)
    (by kernel_rfl)
#print axioms proved
end Go.Proofs.YtfmpfhfeokemcaaDoor.layoutBack
