/-
  The law 'BoundTells' of flotsamlaw20 is true for every input: the row of the given statement 'BoundTellsSaid', without conditions.
-/
import Derived.Test.YtehbmajjoolcnaaGreatXts
import Derived.HandedShaped
import Derived.Shelf.Vars
import Derived.Test.YtehbmajjoolcnaaGreatRows
import Derived.WalkKit
import Derived.ProofKit
import Derived.OpenShut
import Derived.ShutString
import Derived.Carry
import Derived.Test.YtehbmajjoolcnaaGreatCheck
import Derived.Test.YtehbmajjoolcnaaGreatLaw
import Derived.Test.YtehbmajjoolcnaaGreatOpn
import Derived.Test.YtehbmajjoolcnaaGreatGpB
import Derived.Test.YtehbmajjoolcnaaGreatGpD
namespace Go.Proofs.YtehbmajjoolcnaaGreat.boundTells
open Go.ChangeShapes Go.WideShapes Go.ChangeAt Go.RowKit
open Go.AM
open Go.ChangeMaps (open_string shut_string)
set_option linter.unusedVariables false

theorem own : ownKnob Tryz.prog.godebug = none := by kernel_rfl
theorem laid : laidOutB Tryz.prog = true := by kernel_rfl
def tys : List TypeId := [26, 22, 23, 24, 42, 57, 45, 43, 55, 3, 2, 4, 9]
theorem plain : ∀ t ∈ tys, plainAt Tryz.prog tys t = true := List.all_eq_true.1 (show tys.all (plainAt Tryz.prog tys) = true by kernel_rfl)
theorem tree : Spec.TreeTys Tryz.prog 26 22 23 24 42 57 45 43 55 3 2 4 9 where
  g := ⟨_, Tryz.underlying26, rfl⟩
  p := ⟨_, Tryz.underlying42, rfl⟩
  o := ⟨_, Tryz.underlying57, rfl⟩
  s := ⟨_, Tryz.underlying45, rfl⟩
  e := ⟨_, Tryz.underlying55, rfl⟩
  ps := Tryz.underlying22
  ss := Tryz.underlying23
  os := Tryz.underlying24
  es := Tryz.underlying43
  i := Tryz.underlying3
  n := Tryz.underlying2
  b := Tryz.underlying4
  t := Tryz.underlying9
  cp := by kernel_rfl
  cs := by kernel_rfl
  co := by kernel_rfl
  ce := by kernel_rfl

theorem globals0 (w : World) (h : w.ShapedOpen Tryz.prog) : ∀ g ∈ globs Tryz.prog, ∃ m : Int, w.cell? ⟨g, 0, none⟩ = some (.int .i64 m) := by
  intro g hg
  have he : globs Tryz.prog = [0] := by kernel_rfl
  rw [he] at hg
  obtain rfl := List.mem_singleton.1 hg
  exact cell_of_shapedOpen_int (zero := #[.int .i64 0]) (t := 3) h (of_decide_eq_true (by kernel_rfl)) (by kernel_rfl) rfl (by kernel_rfl) (by kernel_rfl) Tryz.underlying3

theorem globals (w : World) (h : w.ShapedOpen Tryz.prog) : VarsOK (globs Tryz.prog) (tabs Tryz.prog) w :=
  ⟨globals0 w h, fun p hp => by
    have he : tabs Tryz.prog = [] := by kernel_rfl
    rw [he] at hp
    cases hp⟩

theorem walk (p0 : Spec.Pg) (f0 : p0.fit) (w : World) (hgl : VarsOK (globs Tryz.prog) (tabs Tryz.prog) w) (x0 : Value) (r0 : R w (fun _ _ => False) [] (.agg p0.cells) x0) :
    Calls Tryz.prog 3 #[x0] w fun e w' => e = .returned (.bool true) ∧ Below w.heap.size w w' := by
  have he := Spec.BoundTells_eq p0 f0
  refine law_eval fits fitsW (fun lim => exts.exts_ok) (fun lim => drw_ok) lt_flotsamlaw20_BoundTells he w hgl _ rfl ?_
  intro j v x hv hx
  rcases j with _ | j
  · simp at hv hx; subst hv hx; exact r0
  simp at hv

set_option maxRecDepth 100000 in
theorem lifted (os : Os) (started : os.Started) (H : Type) (enc : TypeId × Value → H) :
    ReturnsInHanded {} Tryz.checked os 3 .any (Rows.boundTellsSpec.pre6 enc Tryz.prog Tryz.f3 Rows.boundTellsRow.domain false) (Rows.boundTellsSpec.post enc Tryz.prog Tryz.f3 false true false false) := by
  refine returnsInHanded_of_change_shaped (C := Tryz.checked) own started (by kernel_rfl) Tryz.func3
    (ChangeSpec.witness6 (enc := enc) (C := Tryz.checked) false ⟨#[], #[.agg #[.slice none 0 0, .slice none 0 0, .slice none 0 0, .slice none 0 0]], []⟩ 8 (by kernel_rfl) (by kernel_rfl) (by kernel_rfl) (by kernel_rfl)) ?_
  intro W base args ds gs before hval0 hW hcnd _ hsh _
  have hval : ∀ (j : Nat) t v, Tryz.f3.params[j]? = some t → args[j]? = some v → Value.okWide Tryz.prog W .any base t v := hval0
  have hW' := hW
  obtain ⟨p, q, hA0, hV, rfl, hfz, hnd⟩ := hW
  have hA : DataW.TrodAll enc Tryz.prog W 0 (fun _ => true) true Tryz.f3.params.toList args.toList ds p := hA0
  rw [Tryz.params3] at hA hval
  obtain ⟨v0, vs0, d0, ds0, p0, q0, hargs, rfl, rfl, h0, r0⟩ := trodAll_cons hA
  obtain ⟨rfl, rfl, rfl⟩ := trodAll_nil r0
  obtain rfl : args = #[v0] := by cases args; simp_all
  obtain ⟨rfl, rfl⟩ := trodVars_none hV
  obtain ⟨c0, ty0, R0⟩ := open_struct plain (by decide) Tryz.underlying26 (hval 0 26 v0 rfl rfl) h0
  obtain ⟨g0, rfl, fit0⟩ := Spec.pg_of tree ty0
  clear hA0 hval0
  simp only [List.append_nil] at hW'
  have hlt := fun x hx => DataW.Whole.lt hW' x hx
  refine (walk g0 fit0 W (globals W hsh) v0 R0).mono fun e W' ⟨he, hg⟩ => ?_
  subst he
  refine ⟨_, rfl, post_below (pa := _) (pv := []) hW' (fun _ _ _ => (trodAll_cons_mk (shut_bool Tryz.underlying4 _) trodAll_mk0)) (fun sp hsp => (trodAll_cons_mk (WideElems.Trod_stays laid (by kernel_rfl) (of_decide_eq_true (by kernel_rfl)) h0 (fun x hx => hg.same (hlt x (by simp [hx]))) (fun x hx => hsp x (by simp [hx]))) trodAll_mk0)) (fun _ _ => rfl) ?_ hg⟩
  simp

theorem over : Rows.boundTellsRow.holds Tryz.pinned (OpenSpec.ofChange Rows.boundTellsSpec) :=
  OpenClaim.holds_of_wide 3 Tryz.f3 rfl rfl rfl rfl rfl rfl rfl ⟨rfl, rfl, rfl, rfl, rfl⟩ rfl rfl rfl rfl rfl (by kernel_rfl) Tryz.func3 (by kernel_rfl)
    (of_decide_eq_true (by kernel_rfl)) (by unfold Func.isWrapper; first | (rw [if_pos (by decide +kernel)]; kernel_rfl) | (rw [if_neg (by decide +kernel)]; exact ⟨rfl, rfl⟩))
    (fun os started H enc _ => lifted os started H enc)

/-- ████ THE STATEMENT ████ -/
theorem proved : Rows.BoundTellsSaid :=
  over
#print axioms proved
end Go.Proofs.YtehbmajjoolcnaaGreat.boundTells
