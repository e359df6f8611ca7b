/-
  The law 'AllocFree' of flotsamlaw10 is true for every input, where the listed variables of Go's library read as its text lays them: the row and its tied card, the given statement 'AllocFreeCardSaid'.
-/
import Derived.Test.YtfmbdcpdoffdeabDoorSpecLa
import Derived.Test.YtfmbdcpdoffdeabDoorSpecAa
import Derived.Lib.LaidTab
import Derived.Test.YtfmbdcpdoffdeabDoorXts
import Derived.HandedShaped
import Derived.Shelf.Vars
import Derived.Test.YtfmbdcpdoffdeabDoorCards
import Derived.Test.YtfmbdcpdoffdeabDoorTie
import Derived.SevenTiedAt
import Derived.Lay
import Derived.WalkKit
import Derived.ProofKit
import Derived.OpenShut
import Derived.ShutString
import Derived.Carry
import Derived.Test.YtfmbdcpdoffdeabDoorCheck
import Derived.Test.YtfmbdcpdoffdeabDoorLaw
import Derived.Test.YtfmbdcpdoffdeabDoorDoor
import Derived.Test.YtfmbdcpdoffdeabDoorSpecAb
namespace Go.Proofs.YtfmbdcpdoffdeabDoor.allocFree
open Go.ChangeShapes Go.WideShapes Go.ChangeAt Go.RowKit
open Go.AM
open Go.ChangeMaps (open_string shut_string)
set_option linter.unusedVariables false
set_option linter.unusedSimpArgs false

theorem own : ownKnob Tryd.prog.godebug = none := by kernel_rfl
theorem laidOut : laidOutB Tryd.prog = true := by kernel_rfl
theorem globals (w : World) (h : w.ShapedOpen Tryd.prog) : ∀ g ∈ globs Tryd.prog, ∃ m : Int, w.cell? ⟨g, 0, none⟩ = some (.int .i64 m) := by
  intro g hg
  have he : globs Tryd.prog = [2] := by kernel_rfl
  rw [he] at hg
  obtain rfl := List.mem_singleton.1 hg
  exact cell_of_shapedOpen_int (zero := #[.int .i64 0]) (t := 3) h (of_decide_eq_true (by kernel_rfl)) (by kernel_rfl) rfl (by kernel_rfl) (by kernel_rfl) Tryd.underlying3

def laid : List (String × DataW Unit) := [("unicode/utf8.acceptRanges", Rows.laid_unicode_utf8_acceptRanges), ("unicode/utf8.first", Rows.laid_unicode_utf8_first)]

theorem tables (w : World) (h : laidMetH Tryd.prog laid w) : ∀ p ∈ tabs Tryd.prog, ∀ (j : Nat) (x : Value), p.2[j]? = some x → w.cell? ⟨p.1, j, none⟩ = some x := by
  intro p hp
  have he : tabIds Tryd.prog = [] := by kernel_rfl
  unfold tabs at hp
  rw [he] at hp
  cases hp

def ltys : List TypeId := [3, 5, 22, 23, 46, 48, 50]
theorem lplain : ∀ t ∈ ltys, plainAt Tryd.prog ltys t = true := List.all_eq_true.1 (show ltys.all (plainAt Tryd.prog ltys) = true by kernel_rfl)

theorem walk (l0 : List (List UInt8)) (k0 : ∀ s ∈ l0, s.length = 32) (x0 : Value) (l1 : List Spec.Wr) (k1 : ∀ x ∈ l1, x.s.length = 32) (x1 : Value) (w : World) (hgl : VarsOK (globs Tryd.prog) (tabs Tryd.prog) w)       (r0 : R w (fun _ _ => False) [] (.sl 32 (l0.map Spec.bys)) x0)     (r1 : R w (fun _ _ => False) [] (.sl 36 (l1.map Spec.Wr.cells)) x1) :
    Calls Tryd.prog 3 #[x0, x1] w fun e w' => e = .returned (.bool true) ∧ Below w.heap.size w w' := by
  obtain ⟨_, he⟩ := Spec.AllocFree_eq l0 k0 l1 k1
  refine law_eval fits fitsW (fun lim => exts.exts_ok) (fun lim => drw_ok) lt_flotsamlaw10_AllocFree he w hgl _ rfl ?_
  intro j v x hv hx
  rcases j with _ | j
  · simp only [List.getElem?_cons_succ, List.getElem?_cons_zero, Option.some.injEq] at hv; subst hv; simp at hx; subst hx; exact r0
  rcases j with _ | j
  · simp only [List.getElem?_cons_succ, List.getElem?_cons_zero, Option.some.injEq] at hv; subst hv; simp at hx; subst hx; exact r1
  simp at hv

set_option maxRecDepth 100000 in
theorem lifted (os : Os) (started : os.Started) (H : Type) (enc : TypeId × Value → H) :
    ReturnsInHanded {} Tryd.checked os 3 .any (fun w args => (Rows.allocFreeSpec.pre enc Tryd.prog Tryd.f3 [] false w args ∧ laidMetH Tryd.prog laid w) ∧ sizedMet enc Tryd.prog Tryd.f3 (OpenSpec.ofChange Rows.allocFreeSpec) false w args)
      (Rows.allocFreeSpec.post enc Tryd.prog Tryd.f3 false true false false) := by
  refine returns_door (C := Tryd.checked) (X := fun w _ => laidMetH Tryd.prog laid w) (fun _ _ _ hh h => h.of_heap hh) own started (by kernel_rfl) Tryd.func3
    (ChangeSpec.witness_shaped (enc := enc) (C := Tryd.checked) (os := os) (X := fun w _ => laidMetH Tryd.prog laid w) false (World.laidAll Tryd.prog os laid) #[.slice none 0 0, .slice none 0 0] 8 (World.laidAll_os _ _ _)
      (World.shaped_of_ZipB (by kernel_rfl) (by kernel_rfl)) (by kernel_rfl) (by kernel_rfl) (by kernel_rfl)
      (by rw [MakeChecks.laidMetH_plain _ _ _ (by kernel_rfl)]; exact laidMet_laidAll _ (by kernel_rfl) (by kernel_rfl))) ?_
  intro W base args ds gs before hval0 hW _ hsh hlaid
  have hval : ∀ (j : Nat) t v, Tryd.f3.params[j]? = some t → args[j]? = some v → Value.okWide Tryd.prog W .any base t v := hval0
  have hW' := hW
  obtain ⟨p, q, hA0, hV, rfl, hfz, hnd⟩ := hW
  have hA : DataW.TrodAll enc Tryd.prog W 0 (fun _ => true) true Tryd.f3.params.toList args.toList ds p := hA0
  rw [Tryd.params3] at hA hval
  obtain ⟨v0, vs0, d0, ds0, p0, q0, hargs, rfl, rfl, h0, r0⟩ := trodAll_cons hA
  obtain ⟨v1, vs1, d1, ds1, p1, q1, rfl, rfl, rfl, h1, r1⟩ := trodAll_cons r0
  obtain ⟨rfl, rfl, rfl⟩ := trodAll_nil r1
  obtain rfl : args = #[v0, v1] := by cases args; simp_all
  obtain ⟨rfl, rfl⟩ := trodVars_none hV
  obtain ⟨l0, ok0, R0⟩ := Spec.secs_of lplain (by decide) Tryd.underlying22 Tryd.underlying46 Tryd.underlying5 (by kernel_rfl) (hval 0 22 v0 rfl rfl) h0
  obtain ⟨l1, ok1, R1⟩ := Spec.writes_of lplain (by decide) Tryd.underlying23 Tryd.underlying50 rfl Tryd.underlying3 Tryd.underlying46 Tryd.underlying5 Tryd.underlying48 rfl (by kernel_rfl) (hval 1 23 v1 rfl rfl) h1
  clear hA0 hval0
  simp only [List.append_nil] at hW'
  have hlt := fun x hx => DataW.Whole.lt hW' x hx
  refine (walk l0 ok0 v0 l1 ok1 v1 W ⟨globals W hsh, tables W hlaid⟩ R0 R1).mono fun e W' ⟨he, hg⟩ => ?_
  subst he
  refine ⟨_, rfl, post_below (pa := _) (pv := []) hW' (fun _ _ _ => (trodAll_cons_mk (shut_bool Tryd.underlying4 _) trodAll_mk0)) (fun sp hsp => (trodAll_cons_mk (WideElems.Trod_stays laidOut (by kernel_rfl) (of_decide_eq_true (by kernel_rfl)) h0 (fun x hx => hg.same (hlt x (by simp [hx]))) (fun x hx => hsp x (by simp [hx]))) (trodAll_cons_mk (WideElems.Trod_stays laidOut (by kernel_rfl) (of_decide_eq_true (by kernel_rfl)) h1 (fun x hx => hg.same (hlt x (by simp [hx]))) (fun x hx => hsp x (by simp [hx]))) trodAll_mk0))) (fun _ _ => rfl) ?_ hg⟩
  simp

theorem over : Rows.allocFreeRow.holds Tryd.pinned (OpenSpec.ofChange Rows.allocFreeSpec) :=
  OpenClaim.holds_of_wide 3 Tryd.f3 rfl rfl rfl rfl rfl rfl rfl ⟨rfl, rfl, rfl, rfl, rfl⟩ rfl rfl rfl rfl rfl (by kernel_rfl) Tryd.func3 (by kernel_rfl)
    (of_decide_eq_true (by kernel_rfl)) (by unfold Func.isWrapper; first | (rw [if_pos (by decide +kernel)]; kernel_rfl) | (rw [if_neg (by decide +kernel)]; exact ⟨rfl, rfl⟩))
    (fun os started H enc _ => lifted os started H enc)

/-- ████ THE STATEMENT ████ -/
theorem proved : Rows.AllocFreeCardSaid :=
  Claim7.holds_tied_plain_at .later [] [.data, .pinned] true (true, "ea7d9d741390d0698530d59580a41e2750929dc0badc73421bcde9e6e9822158") false over (fun _ h => by cases h) (by kernel_rfl) (fun _ h => by cases h) allocFree_row_tie rfl ⟨rfl, rfl⟩ (by kernel_rfl) rfl
    (fun f fn hf hfn => by
      obtain rfl : f = 3 := Option.some.inj ((show Tryd.prog.funcNamed "flotsam/flotsamlaw10.AllocFree" = some 3 by kernel_rfl).symm.trans hf) |>.symm
      obtain rfl : fn = Tryd.f3 := (Option.some.inj (Tryd.func3.symm.trans hfn)).symm
      exact ⟨by kernel_rfl, fun j t ht => by
        rw [Tryd.params3] at ht
        have hm : t ∈ [22, 23] := by simpa using Array.mem_of_getElem? ht
        have hall : ([22, 23].all fun u => !Tryd.prog.wantsStandIn u) = true := by kernel_rfl
        exact (show Tryd.prog.wantsStandIn t = false by simpa using List.all_eq_true.1 hall t hm)⟩)
    (by kernel_rfl)
#print axioms proved
end Go.Proofs.YtfmbdcpdoffdeabDoor.allocFree
