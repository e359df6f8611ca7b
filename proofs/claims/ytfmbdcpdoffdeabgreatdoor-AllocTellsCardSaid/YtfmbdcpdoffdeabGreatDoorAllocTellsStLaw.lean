/-
  The law 'AllocTells' of flotsamlaw10 is true for every input, where the listed variables of Go's library read as its text lays them: the row and its tied card, the given statement 'AllocTellsCardSaid'.
-/
import Derived.Test.YtfmbdcpdoffdeabGreatDoorSpecLa
import Derived.Test.YtfmbdcpdoffdeabGreatDoorSpecAa
import Derived.Lib.LaidTab
import Derived.Test.YtfmbdcpdoffdeabGreatDoorXts
import Derived.HandedShaped
import Derived.Shelf.Vars
import Derived.Test.YtfmbdcpdoffdeabGreatDoorCards
import Derived.Test.YtfmbdcpdoffdeabGreatDoorTie
import Derived.SevenTiedAt
import Derived.Lay
import Derived.WalkKit
import Derived.ProofKit
import Derived.OpenShut
import Derived.ShutString
import Derived.Carry
import Derived.Test.YtfmbdcpdoffdeabGreatDoorCheck
import Derived.Test.YtfmbdcpdoffdeabGreatDoorLaw
import Derived.Test.YtfmbdcpdoffdeabGreatDoorDoor
import Derived.Test.YtfmbdcpdoffdeabGreatDoorSpecAb
namespace Go.Proofs.YtfmbdcpdoffdeabGreatDoor.allocTells
open Go.ChangeShapes Go.WideShapes Go.ChangeAt Go.RowKit
open Go.AM
open Go.ChangeMaps (open_string shut_string)
set_option linter.unusedVariables false
set_option linter.unusedSimpArgs false

theorem own : ownKnob Tryz.prog.godebug = none := by kernel_rfl
theorem laidOut : laidOutB Tryz.prog = true := by kernel_rfl
theorem globals (w : World) (h : w.ShapedOpen Tryz.prog) : ∀ g ∈ globs Tryz.prog, ∃ m : Int, w.cell? ⟨g, 0, none⟩ = some (.int .i64 m) := by
  intro g hg
  have he : globs Tryz.prog = [2] := by kernel_rfl
  rw [he] at hg
  obtain rfl := List.mem_singleton.1 hg
  exact cell_of_shapedOpen_int (zero := #[.int .i64 0]) (t := 3) h (of_decide_eq_true (by kernel_rfl)) (by kernel_rfl) rfl (by kernel_rfl) (by kernel_rfl) Tryz.underlying3

def laid : List (String × DataW Unit) := [("unicode/utf8.acceptRanges", Rows.laid_unicode_utf8_acceptRanges), ("unicode/utf8.first", Rows.laid_unicode_utf8_first)]

theorem tables (w : World) (h : laidMetH Tryz.prog laid w) : ∀ p ∈ tabs Tryz.prog, ∀ (j : Nat) (x : Value), p.2[j]? = some x → w.cell? ⟨p.1, j, none⟩ = some x := by
  intro p hp
  have he : tabIds Tryz.prog = [] := by kernel_rfl
  unfold tabs at hp
  rw [he] at hp
  cases hp

def ltys : List TypeId := [3, 5, 22, 23, 46, 48, 50]
theorem lplain : ∀ t ∈ ltys, plainAt Tryz.prog ltys t = true := List.all_eq_true.1 (show ltys.all (plainAt Tryz.prog ltys) = true by kernel_rfl)

theorem walk (l0 : List (List UInt8)) (k0 : ∀ s ∈ l0, s.length = 32) (x0 : Value) (l1 : List Spec.Wr) (k1 : ∀ x ∈ l1, x.s.length = 32) (x1 : Value) (a2 : Int) (w2 : (Lit.int .i64 a2).wf = true) (w : World) (hgl : VarsOK (globs Tryz.prog) (tabs Tryz.prog) w)       (r0 : R w (fun _ _ => False) [] (.sl 32 (l0.map Spec.bys)) x0)     (r1 : R w (fun _ _ => False) [] (.sl 36 (l1.map Spec.Wr.cells)) x1) :
    Calls Tryz.prog 3 #[x0, x1, .int .i64 a2] w fun e w' => e = .returned (.bool true) ∧ Below w.heap.size w w' := by
  obtain ⟨_, he⟩ := Spec.AllocTells_eq l0 k0 l1 k1 a2 w2
  refine law_eval fits fitsW (fun lim => exts.exts_ok) (fun lim => drw_ok) lt_flotsamlaw10_AllocTells he w hgl _ rfl ?_
  intro j v x hv hx
  rcases j with _ | j
  · simp only [List.getElem?_cons_succ, List.getElem?_cons_zero, Option.some.injEq] at hv; subst hv; simp at hx; subst hx; exact r0
  rcases j with _ | j
  · simp only [List.getElem?_cons_succ, List.getElem?_cons_zero, Option.some.injEq] at hv; subst hv; simp at hx; subst hx; exact r1
  rcases j with _ | j
  · simp only [List.getElem?_cons_succ, List.getElem?_cons_zero, Option.some.injEq] at hv; subst hv; simp at hx; subst hx; exact .pr (.int _ _)
  simp at hv

set_option maxRecDepth 100000 in
theorem lifted (os : Os) (started : os.Started) (H : Type) (enc : TypeId × Value → H) :
    ReturnsInHanded {} Tryz.checked os 3 .any (fun w args => (Rows.allocTellsSpec.pre enc Tryz.prog Tryz.f3 [] false w args ∧ laidMetH Tryz.prog laid w) ∧ sizedMet enc Tryz.prog Tryz.f3 (OpenSpec.ofChange Rows.allocTellsSpec) false w args)
      (Rows.allocTellsSpec.post enc Tryz.prog Tryz.f3 false true false false) := by
  refine returns_door (C := Tryz.checked) (X := fun w _ => laidMetH Tryz.prog laid w) (fun _ _ _ hh h => h.of_heap hh) own started (by kernel_rfl) Tryz.func3
    (ChangeSpec.witness_shaped (enc := enc) (C := Tryz.checked) (os := os) (X := fun w _ => laidMetH Tryz.prog laid w) false (World.laidAll Tryz.prog os laid) #[.slice none 0 0, .slice none 0 0, .int .i64 0] 8 (World.laidAll_os _ _ _)
      (World.shaped_of_ZipB (by kernel_rfl) (by kernel_rfl)) (by kernel_rfl) (by kernel_rfl) (by kernel_rfl)
      (by rw [MakeChecks.laidMetH_plain _ _ _ (by kernel_rfl)]; exact laidMet_laidAll _ (by kernel_rfl) (by kernel_rfl))) ?_
  intro W base args ds gs before hval0 hW _ hsh hlaid
  have hval : ∀ (j : Nat) t v, Tryz.f3.params[j]? = some t → args[j]? = some v → Value.okWide Tryz.prog W .any base t v := hval0
  have hW' := hW
  obtain ⟨p, q, hA0, hV, rfl, hfz, hnd⟩ := hW
  have hA : DataW.TrodAll enc Tryz.prog W 0 (fun _ => true) true Tryz.f3.params.toList args.toList ds p := hA0
  rw [Tryz.params3] at hA hval
  obtain ⟨v0, vs0, d0, ds0, p0, q0, hargs, rfl, rfl, h0, r0⟩ := trodAll_cons hA
  obtain ⟨v1, vs1, d1, ds1, p1, q1, rfl, rfl, rfl, h1, r1⟩ := trodAll_cons r0
  obtain ⟨v2, vs2, d2, ds2, p2, q2, rfl, rfl, rfl, h2, r2⟩ := trodAll_cons r1
  obtain ⟨rfl, rfl, rfl⟩ := trodAll_nil r2
  obtain rfl : args = #[v0, v1, v2] := by cases args; simp_all
  obtain ⟨rfl, rfl⟩ := trodVars_none hV
  obtain ⟨l0, ok0, R0⟩ := Spec.secs_of lplain (by decide) Tryz.underlying22 Tryz.underlying46 Tryz.underlying5 (by kernel_rfl) (hval 0 22 v0 rfl rfl) h0
  obtain ⟨l1, ok1, R1⟩ := Spec.writes_of lplain (by decide) Tryz.underlying23 Tryz.underlying50 rfl Tryz.underlying3 Tryz.underlying46 Tryz.underlying5 Tryz.underlying48 rfl (by kernel_rfl) (hval 1 23 v1 rfl rfl) h1
  obtain ⟨a2, rfl, rfl, rfl, w2⟩ := open_int Tryz.underlying3 (hval 2 3 v2 rfl rfl) h2
  clear hA0 hval0
  simp only [List.append_nil] at hW'
  have hlt := fun x hx => DataW.Whole.lt hW' x hx
  refine (walk l0 ok0 v0 l1 ok1 v1 a2 w2 W ⟨globals W hsh, tables W hlaid⟩ R0 R1).mono fun e W' ⟨he, hg⟩ => ?_
  subst he
  refine ⟨_, rfl, post_below (pa := _) (pv := []) hW' (fun _ _ _ => (trodAll_cons_mk (shut_bool Tryz.underlying4 _) trodAll_mk0)) (fun sp hsp => (trodAll_cons_mk (WideElems.Trod_stays laidOut (by kernel_rfl) (of_decide_eq_true (by kernel_rfl)) h0 (fun x hx => hg.same (hlt x (by simp [hx]))) (fun x hx => hsp x (by simp [hx]))) (trodAll_cons_mk (WideElems.Trod_stays laidOut (by kernel_rfl) (of_decide_eq_true (by kernel_rfl)) h1 (fun x hx => hg.same (hlt x (by simp [hx]))) (fun x hx => hsp x (by simp [hx]))) (trodAll_cons_mk (shut_int Tryz.underlying3 w2) trodAll_mk0)))) (fun _ _ => rfl) ?_ hg⟩
  simp

theorem over : Rows.allocTellsRow.holds Tryz.pinned (OpenSpec.ofChange Rows.allocTellsSpec) :=
  OpenClaim.holds_of_wide 3 Tryz.f3 rfl rfl rfl rfl rfl rfl rfl ⟨rfl, rfl, rfl, rfl, rfl⟩ rfl rfl rfl rfl rfl (by kernel_rfl) Tryz.func3 (by kernel_rfl)
    (of_decide_eq_true (by kernel_rfl)) (by unfold Func.isWrapper; first | (rw [if_pos (by decide +kernel)]; kernel_rfl) | (rw [if_neg (by decide +kernel)]; exact ⟨rfl, rfl⟩))
    (fun os started H enc _ => lifted os started H enc)

/-- ████ THE STATEMENT ████ -/
theorem proved : Rows.AllocTellsCardSaid :=
  Claim7.holds_tied_plain_at .later [] [.data, .pinned] true (true, "51333802ed8932e1d4458f3d7783c0e22e7613e5b76df71a7b7fdb99007c5fcf") false over (fun _ h => by cases h) (by kernel_rfl) (fun _ h => by cases h) allocTells_row_tie rfl ⟨rfl, rfl⟩ (by kernel_rfl) rfl
    (fun f fn hf hfn => by
      obtain rfl : f = 3 := Option.some.inj ((show Tryz.prog.funcNamed "flotsam/flotsamlaw10.AllocTells" = some 3 by kernel_rfl).symm.trans hf) |>.symm
      obtain rfl : fn = Tryz.f3 := (Option.some.inj (Tryz.func3.symm.trans hfn)).symm
      exact ⟨by kernel_rfl, fun j t ht => by
        rw [Tryz.params3] at ht
        have hm : t ∈ [22, 23, 3] := by simpa using Array.mem_of_getElem? ht
        have hall : ([22, 23, 3].all fun u => !Tryz.prog.wantsStandIn u) = true := by kernel_rfl
        exact (show Tryz.prog.wantsStandIn t = false by simpa using List.all_eq_true.1 hall t hm)⟩)
    (by kernel_rfl)
#print axioms proved
end Go.Proofs.YtfmbdcpdoffdeabGreatDoor.allocTells
