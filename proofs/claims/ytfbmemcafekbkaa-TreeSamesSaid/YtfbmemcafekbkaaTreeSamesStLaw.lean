/-
  The law 'TreeSames' of flotsamlaw16 is true for every input: the row of the given statement 'TreeSamesSaid', without conditions.
-/
import Derived.Test.YtfbmemcafekbkaaXts
import Derived.HandedShaped
import Derived.Shelf.Vars
import Derived.Test.YtfbmemcafekbkaaRows
import Derived.WalkKit
import Derived.ProofKit
import Derived.OpenShut
import Derived.ShutString
import Derived.Carry
import Derived.Test.YtfbmemcafekbkaaCheck
import Derived.Test.YtfbmemcafekbkaaLaw
import Derived.Test.YtfbmemcafekbkaaOpn
import Derived.Test.YtfbmemcafekbkaaSpecTb
namespace Go.Proofs.Ytfbmemcafekbkaa.treeSames
open Go.ChangeShapes Go.WideShapes Go.ChangeAt Go.RowKit
open Go.AM
open Go.ChangeMaps (open_string shut_string)
set_option linter.unusedVariables false

theorem own : ownKnob Try.prog.godebug = none := by kernel_rfl
theorem laid : laidOutB Try.prog = true := by kernel_rfl
def tys : List TypeId := [26, 22, 23, 24, 33, 39, 44, 35, 37, 3, 2, 4, 9]
theorem plain : ∀ t ∈ tys, plainAt Try.prog tys t = true := List.all_eq_true.1 (show tys.all (plainAt Try.prog tys) = true by kernel_rfl)
theorem tree : Spec.TreeTys Try.prog 26 22 23 24 33 39 44 35 37 3 2 4 9 where
  g := ⟨_, Try.underlying26, rfl⟩
  p := ⟨_, Try.underlying33, rfl⟩
  o := ⟨_, Try.underlying39, rfl⟩
  s := ⟨_, Try.underlying44, rfl⟩
  e := ⟨_, Try.underlying37, rfl⟩
  ps := Try.underlying22
  ss := Try.underlying23
  os := Try.underlying24
  es := Try.underlying35
  i := Try.underlying3
  n := Try.underlying2
  b := Try.underlying4
  t := Try.underlying9
  cp := by kernel_rfl
  cs := by kernel_rfl
  co := by kernel_rfl
  ce := by kernel_rfl

theorem globals0 (w : World) (h : w.ShapedOpen Try.prog) : ∀ g ∈ globs Try.prog, ∃ m : Int, w.cell? ⟨g, 0, none⟩ = some (.int .i64 m) := by
  intro g hg
  have he : globs Try.prog = [0] := by kernel_rfl
  rw [he] at hg
  obtain rfl := List.mem_singleton.1 hg
  exact cell_of_shapedOpen_int (zero := #[.int .i64 0]) (t := 3) h (of_decide_eq_true (by kernel_rfl)) (by kernel_rfl) rfl (by kernel_rfl) (by kernel_rfl) Try.underlying3

theorem globals (w : World) (h : w.ShapedOpen Try.prog) : VarsOK (globs Try.prog) (tabs Try.prog) w :=
  ⟨globals0 w h, fun p hp => by
    have he : tabs Try.prog = [] := by kernel_rfl
    rw [he] at hp
    cases hp⟩

theorem shape : (match Try.f3.body with | some c => chkK Try.prog true Try.f3.ntmps c Spec.k_flotsamlaw16_TreeSames && Spec.altB Spec.regB c Spec.k_flotsamlaw16_TreeSames && chkRes Try.prog Try.f3.results.toList [.t 4] | none => false) = true := by kernel_rfl

theorem calls : CallOK (EL Try.prog tbl none) Try.prog (eval tbl noExt) := fun f args H r H' h lim hl => by
  obtain ⟨n, hn⟩ := (eval_iff _ _ _ _ _ _).1 h
  exact run_sound fits fitsW (fun lim => exts.exts_ok) (fun lim => drw_ok) n f args H r H' hn lim hl

theorem walk (p0 : Spec.Pg) (f0 : p0.fit) (p1 : Spec.Pg) (f1 : p1.fit) (w : World) (hgl : VarsOK (globs Try.prog) (tabs Try.prog) w) (x0 : Value) (r0 : R w (fun _ _ => False) [] (.agg p0.cells) x0) (x1 : Value) (r1 : R w (fun _ _ => False) [] (.agg p1.cells) x1) :
    Calls Try.prog 3 #[x0, x1] w fun e w' => e = .returned (.bool true) ∧ Below w.heap.size w w' := by
  have hs := shape
  match hb : Try.f3.body with
  | none => rw [hb] at hs; cases hs
  | some c =>
  rw [hb] at hs
  simp only [Bool.and_eq_true] at hs
  obtain ⟨⟨hK, hA⟩, hR⟩ := hs
  refine lawK calls drw_ok Try.func3 hb (of_decide_eq_true (by kernel_rfl)) hR hK Spec.lab_TreeSames (Spec.TreeSames_out hA p0 p1) w hgl _ rfl ?_
  intro j v x hv hx
  rcases j with _ | j
  · simp at hv hx; subst hv hx; exact r0
  rcases j with _ | j
  · simp at hv hx; subst hv hx; exact r1
  simp at hv

set_option maxRecDepth 100000 in
theorem lifted (os : Os) (started : os.Started) (H : Type) (enc : TypeId × Value → H) :
    ReturnsInHanded {} Try.checked os 3 .any (Rows.treeSamesSpec.pre6 enc Try.prog Try.f3 Rows.treeSamesRow.domain false) (Rows.treeSamesSpec.post enc Try.prog Try.f3 false true false false) := by
  refine returnsInHanded_of_change_shaped (C := Try.checked) own started (by kernel_rfl) Try.func3
    (ChangeSpec.witness6 (enc := enc) (C := Try.checked) false ⟨#[], #[.agg #[.slice none 0 0, .slice none 0 0, .slice none 0 0, .slice none 0 0], .agg #[.slice none 0 0, .slice none 0 0, .slice none 0 0, .slice none 0 0]], []⟩ 8 (by kernel_rfl) (by kernel_rfl) (by kernel_rfl) (by kernel_rfl)) ?_
  intro W base args ds gs before hval0 hW hcnd _ hsh _
  have hval : ∀ (j : Nat) t v, Try.f3.params[j]? = some t → args[j]? = some v → Value.okWide Try.prog W .any base t v := hval0
  have hW' := hW
  obtain ⟨p, q, hA0, hV, rfl, hfz, hnd⟩ := hW
  have hA : DataW.TrodAll enc Try.prog W 0 (fun _ => true) true Try.f3.params.toList args.toList ds p := hA0
  rw [Try.params3] at hA hval
  obtain ⟨v0, vs0, d0, ds0, p0, q0, hargs, rfl, rfl, h0, r0⟩ := trodAll_cons hA
  obtain ⟨v1, vs1, d1, ds1, p1, q1, rfl, rfl, rfl, h1, r1⟩ := trodAll_cons r0
  obtain ⟨rfl, rfl, rfl⟩ := trodAll_nil r1
  obtain rfl : args = #[v0, v1] := by cases args; simp_all
  obtain ⟨rfl, rfl⟩ := trodVars_none hV
  obtain ⟨c0, ty0, R0⟩ := open_struct plain (by decide) Try.underlying26 (hval 0 26 v0 rfl rfl) h0
  obtain ⟨g0, rfl, fit0⟩ := Spec.pg_of tree ty0
  obtain ⟨c1, ty1, R1⟩ := open_struct plain (by decide) Try.underlying26 (hval 1 26 v1 rfl rfl) h1
  obtain ⟨g1, rfl, fit1⟩ := Spec.pg_of tree ty1
  clear hA0 hval0
  simp only [List.append_nil] at hW'
  have hlt := fun x hx => DataW.Whole.lt hW' x hx
  refine (walk g0 fit0 g1 fit1 W (globals W hsh) v0 R0 v1 R1).mono fun e W' ⟨he, hg⟩ => ?_
  subst he
  refine ⟨_, rfl, post_below (pa := _) (pv := []) hW' (fun _ _ _ => (trodAll_cons_mk (shut_bool Try.underlying4 _) trodAll_mk0)) (fun sp hsp => (trodAll_cons_mk (WideElems.Trod_stays laid (by kernel_rfl) (of_decide_eq_true (by kernel_rfl)) h0 (fun x hx => hg.same (hlt x (by simp [hx]))) (fun x hx => hsp x (by simp [hx]))) (trodAll_cons_mk (WideElems.Trod_stays laid (by kernel_rfl) (of_decide_eq_true (by kernel_rfl)) h1 (fun x hx => hg.same (hlt x (by simp [hx]))) (fun x hx => hsp x (by simp [hx]))) trodAll_mk0))) (fun _ _ => rfl) ?_ hg⟩
  simp

theorem over : Rows.treeSamesRow.holds Try.pinned (OpenSpec.ofChange Rows.treeSamesSpec) :=
  OpenClaim.holds_of_wide 3 Try.f3 rfl rfl rfl rfl rfl rfl rfl ⟨rfl, rfl, rfl, rfl, rfl⟩ rfl rfl rfl rfl rfl (by kernel_rfl) Try.func3 (by kernel_rfl)
    (of_decide_eq_true (by kernel_rfl)) (by unfold Func.isWrapper; first | (rw [if_pos (by decide +kernel)]; kernel_rfl) | (rw [if_neg (by decide +kernel)]; exact ⟨rfl, rfl⟩))
    (fun os started H enc _ => lifted os started H enc)

/-- ████ THE STATEMENT ████ -/
theorem proved : Rows.TreeSamesSaid :=
  over
#print axioms proved
end Go.Proofs.Ytfbmemcafekbkaa.treeSames
