/-
  The law 'PackBack' of flotsamlaw34 is true for every input, where the listed variables of Go's library read as its text lays them: the row and its tied card, the given statement 'PackBackCardSaid'.
-/
import Derived.Test.YteafmhnbeobboaaDoorSpecSc
import Derived.Test.YteafmhnbeobboaaDoorSpecPb
import Derived.Lib.LaidTab
import Derived.Test.YteafmhnbeobboaaDoorXts
import Derived.HandedShaped
import Derived.Shelf.Vars
import Derived.Test.YteafmhnbeobboaaDoorCards
import Derived.Test.YteafmhnbeobboaaDoorTie
import Derived.SevenTiedAt
import Derived.Lay
import Derived.WalkKit
import Derived.ProofKit
import Derived.OpenShut
import Derived.ShutString
import Derived.Carry
import Derived.Test.YteafmhnbeobboaaDoorCheck
import Derived.Test.YteafmhnbeobboaaDoorLaw
import Derived.Test.YteafmhnbeobboaaDoorDoor
namespace Go.Proofs.YteafmhnbeobboaaDoor.packBack
open Go.ChangeShapes Go.WideShapes Go.ChangeAt Go.RowKit
open Go.AM
open Go.ChangeMaps (open_string shut_string)
set_option linter.unusedVariables false
set_option linter.unusedSimpArgs false

theorem own : ownKnob Tryd.prog.godebug = none := by kernel_rfl
theorem laidOut : laidOutB Tryd.prog = true := by kernel_rfl
theorem globals (w : World) (h : w.ShapedOpen Tryd.prog) : ∀ g ∈ globs Tryd.prog, ∃ m : Int, w.cell? ⟨g, 0, none⟩ = some (.int .i64 m) := by
  intro g hg
  have he : globs Tryd.prog = [2] := by kernel_rfl
  rw [he] at hg
  obtain rfl := List.mem_singleton.1 hg
  exact cell_of_shapedOpen_int (zero := #[.int .i64 0]) (t := 3) h (of_decide_eq_true (by kernel_rfl)) (by kernel_rfl) rfl (by kernel_rfl) (by kernel_rfl) Tryd.underlying3

def laid : List (String × DataW Unit) := [("unicode.White_Space", Rows.laid_unicode_White_Space), ("strings.asciiSpace", Rows.laid_strings_asciiSpace)]

set_option maxRecDepth 100000 in
theorem tables (w : World) (h : laidMetH Tryd.prog laid w) : ∀ p ∈ tabs Tryd.prog, ∀ (j : Nat) (x : Value), p.2[j]? = some x → w.cell? ⟨p.1, j, none⟩ = some x := by
  rw [MakeChecks.laidMetH_plain _ _ _ (by kernel_rfl)] at h
  have h1 : laidMet Tryd.prog (("strings.asciiSpace", Rows.laid_strings_asciiSpace) :: []) w := laidMet_rest (h)
  have h2 : laidMet Tryd.prog (("strings.asciiSpace", Lib.tabData .u8 Lib.asciiSpaceTab) :: []) w := by
    have e : (("strings.asciiSpace", Rows.laid_strings_asciiSpace) : String × DataW Unit) = ("strings.asciiSpace", Lib.tabData .u8 Lib.asciiSpaceTab) := by kernel_rfl
    rw [e] at h1
    exact h1
  have h3 : Lib.TabIs Tryd.prog w "strings.asciiSpace" .u8 Lib.asciiSpaceTab := Lib.tabIs_of_head (g := 0) (t := 108) (e := 5) (n := 256) (by kernel_rfl) (by kernel_rfl) Tryd.underlying108 Tryd.underlying5 (by kernel_rfl) (by kernel_rfl) h2
  intro p hp j x hx
  rw [exts.tabs_eq, List.mem_singleton] at hp
  subst hp
  have hj : j < Lib.asciiSpaceTab.length := by
    rcases Nat.lt_or_ge j Lib.asciiSpaceTab.length with h | h
    · exact h
    · rw [List.getElem?_eq_none (by unfold spaceTab; simpa using h)] at hx; cases hx
  have h4 := h3.cell (by kernel_rfl : Tryd.prog.globalNamed "strings.asciiSpace" = some 0) j hj
  rw [h4, ← hx]
  unfold spaceTab
  rw [List.getElem?_map, List.getElem?_eq_getElem hj, List.getD_eq_getElem?_getD, List.getElem?_eq_getElem hj]
  rfl

def stys : List TypeId := [47, 45, 3, 26, 73, 77, 75, 35, 22, 23, 24, 4]
theorem splain : ∀ t ∈ stys, plainAt Tryd.prog stys t = true := List.all_eq_true.1 (show stys.all (plainAt Tryd.prog stys) = true by kernel_rfl)

def btys : List TypeId := [5, 27]
theorem bplain : ∀ t ∈ btys, plainAt Tryd.prog btys t = true := List.all_eq_true.1 (show btys.all (plainAt Tryd.prog btys) = true by kernel_rfl)

theorem walk (m0 : Spec.Mx) (k0 : m0.fit) (x0 : Value) (m1 : Spec.Mx) (k1 : m1.fit) (x1 : Value) (l2 : List UInt8) (k2 : Spec.Len l2.length) (x2 : Value) (w : World) (hgl : VarsOK (globs Tryd.prog) (tabs Tryd.prog) w)    (r0 : R w (fun _ _ => False) [] (.agg m0.cells) x0) (r1 : R w (fun _ _ => False) [] (.agg m1.cells) x1)       (r2 : R w (fun _ _ => False) [] (.sl 1 (bytesRows l2)) x2) :
    Calls Tryd.prog 4 #[x0, x1, x2] w fun e w' => e = .returned (.bool true) ∧ Below w.heap.size w w' := by
  obtain ⟨_, he⟩ := Spec.PackBack_eq m0 k0 m1 k1 l2 k2
  refine law_eval fits exts.exts_ok drw_ok lt_flotsamlaw34_PackBack he w hgl _ rfl ?_
  intro j v x hv hx
  rcases j with _ | j
  · simp only [List.getElem?_cons_succ, List.getElem?_cons_zero, Option.some.injEq] at hv; subst hv; simp at hx; subst hx; exact r0
  rcases j with _ | j
  · simp only [List.getElem?_cons_succ, List.getElem?_cons_zero, Option.some.injEq] at hv; subst hv; simp at hx; subst hx; exact r1
  rcases j with _ | j
  · simp only [List.getElem?_cons_succ, List.getElem?_cons_zero, Option.some.injEq] at hv; subst hv; simp at hx; subst hx; exact r2
  simp at hv

set_option maxRecDepth 100000 in
theorem lifted (os : Os) (started : os.Started) (H : Type) (enc : TypeId × Value → H) :
    ReturnsInHanded {} Tryd.checked os 4 .any (fun w args => (Rows.packBackSpec.pre enc Tryd.prog Tryd.f4 [] false w args ∧ laidMetH Tryd.prog laid w) ∧ sizedMet enc Tryd.prog Tryd.f4 (OpenSpec.ofChange Rows.packBackSpec) false w args)
      (Rows.packBackSpec.post enc Tryd.prog Tryd.f4 false true false false) := by
  refine returns_door (C := Tryd.checked) (X := fun w _ => laidMetH Tryd.prog laid w) (fun _ _ _ hh h => h.of_heap hh) own started (by kernel_rfl) Tryd.func4
    (ChangeSpec.witness_shaped (enc := enc) (C := Tryd.checked) (os := os) (X := fun w _ => laidMetH Tryd.prog laid w) false (World.laidAll Tryd.prog os laid) #[.agg #[.bool false, .slice none 0 0, .slice none 0 0, .slice none 0 0], .agg #[.bool false, .slice none 0 0, .slice none 0 0, .slice none 0 0], .slice none 0 0] 8 (World.laidAll_os _ _ _)
      (World.shaped_of_ZipB (by kernel_rfl) (by kernel_rfl)) (by kernel_rfl) (by kernel_rfl) (by kernel_rfl)
      (by rw [MakeChecks.laidMetH_plain _ _ _ (by kernel_rfl)]; exact laidMet_laidAll _ (by kernel_rfl) (by kernel_rfl))) ?_
  intro W base args ds gs before hval0 hW _ hsh hlaid
  have hval : ∀ (j : Nat) t v, Tryd.f4.params[j]? = some t → args[j]? = some v → Value.okWide Tryd.prog W .any base t v := hval0
  have hW' := hW
  obtain ⟨p, q, hA0, hV, rfl, hfz, hnd⟩ := hW
  have hA : DataW.TrodAll enc Tryd.prog W 0 (fun _ => true) true Tryd.f4.params.toList args.toList ds p := hA0
  rw [Tryd.params4] at hA hval
  obtain ⟨v0, vs0, d0, ds0, p0, q0, hargs, rfl, rfl, h0, r0⟩ := trodAll_cons hA
  obtain ⟨v1, vs1, d1, ds1, p1, q1, rfl, rfl, rfl, h1, r1⟩ := trodAll_cons r0
  obtain ⟨v2, vs2, d2, ds2, p2, q2, rfl, rfl, rfl, h2, r2⟩ := trodAll_cons r1
  obtain ⟨rfl, rfl, rfl⟩ := trodAll_nil r2
  obtain rfl : args = #[v0, v1, v2] := by cases args; simp_all
  obtain ⟨rfl, rfl⟩ := trodVars_none hV
  obtain ⟨c0, ty0, R0⟩ := open_struct splain (by decide) Tryd.underlying26 (hval 0 26 v0 rfl rfl) h0
  obtain ⟨m0, rfl, ok0⟩ := Spec.mx_of ty0 Tryd.underlying26 rfl Tryd.underlying4 Tryd.underlying22 Tryd.underlying23 Tryd.underlying24 (by kernel_rfl) (by kernel_rfl) (by kernel_rfl)
    (fun vs h => Spec.cell_of h Tryd.underlying77 rfl Tryd.underlying75 rfl Tryd.underlying3 Tryd.underlying73 Tryd.underlying3 Tryd.underlying35 Tryd.underlying3 Tryd.underlying73)
    (fun vs h => Spec.site_of h Tryd.underlying47 rfl Tryd.underlying3 Tryd.underlying45)
  obtain ⟨c1, ty1, R1⟩ := open_struct splain (by decide) Tryd.underlying26 (hval 1 26 v1 rfl rfl) h1
  obtain ⟨m1, rfl, ok1⟩ := Spec.mx_of ty1 Tryd.underlying26 rfl Tryd.underlying4 Tryd.underlying22 Tryd.underlying23 Tryd.underlying24 (by kernel_rfl) (by kernel_rfl) (by kernel_rfl)
    (fun vs h => Spec.cell_of h Tryd.underlying77 rfl Tryd.underlying75 rfl Tryd.underlying3 Tryd.underlying73 Tryd.underlying3 Tryd.underlying35 Tryd.underlying3 Tryd.underlying73)
    (fun vs h => Spec.site_of h Tryd.underlying47 rfl Tryd.underlying3 Tryd.underlying45)
  obtain ⟨l2, ok2, R2⟩ := Spec.blist_of bplain (by decide) Tryd.underlying27 Tryd.underlying5 (by kernel_rfl) (hval 2 27 v2 rfl rfl) h2
  clear hA0 hval0
  simp only [List.append_nil] at hW'
  have hlt := fun x hx => DataW.Whole.lt hW' x hx
  refine (walk m0 ok0 v0 m1 ok1 v1 l2 ok2 v2 W ⟨globals W hsh, tables W hlaid⟩ R0 R1 R2).mono fun e W' ⟨he, hg⟩ => ?_
  subst he
  refine ⟨_, rfl, post_below (pa := _) (pv := []) hW' (fun _ _ _ => (trodAll_cons_mk (shut_bool Tryd.underlying4 _) trodAll_mk0)) (fun sp hsp => (trodAll_cons_mk (WideElems.Trod_stays laidOut (by kernel_rfl) (of_decide_eq_true (by kernel_rfl)) h0 (fun x hx => hg.same (hlt x (by simp [hx]))) (fun x hx => hsp x (by simp [hx]))) (trodAll_cons_mk (WideElems.Trod_stays laidOut (by kernel_rfl) (of_decide_eq_true (by kernel_rfl)) h1 (fun x hx => hg.same (hlt x (by simp [hx]))) (fun x hx => hsp x (by simp [hx]))) (trodAll_cons_mk (WideElems.Trod_stays laidOut (by kernel_rfl) (of_decide_eq_true (by kernel_rfl)) h2 (fun x hx => hg.same (hlt x (by simp [hx]))) (fun x hx => hsp x (by simp [hx]))) trodAll_mk0)))) (fun _ _ => rfl) ?_ hg⟩
  simp

theorem over : Rows.packBackRow.holds Tryd.pinned (OpenSpec.ofChange Rows.packBackSpec) :=
  OpenClaim.holds_of_wide 4 Tryd.f4 rfl rfl rfl rfl rfl rfl rfl ⟨rfl, rfl, rfl, rfl, rfl⟩ rfl rfl rfl rfl rfl (by kernel_rfl) Tryd.func4 (by kernel_rfl)
    (of_decide_eq_true (by kernel_rfl)) (by unfold Func.isWrapper; first | (rw [if_pos (by decide +kernel)]; kernel_rfl) | (rw [if_neg (by decide +kernel)]; exact ⟨rfl, rfl⟩))
    (fun os started H enc _ => lifted os started H enc)

/-- ████ THE STATEMENT ████ -/
theorem proved : Rows.PackBackCardSaid :=
  Claim7.holds_tied_plain_at .later [] [.listed, .data] true (true, "50f3b990f922e25294e0a9b68456d2fbf4a8a9370b4f5dd5136e7be80fb3fb57") false over (fun _ h => by cases h) (by kernel_rfl) (fun _ h => by cases h) packBack_row_tie rfl ⟨rfl, rfl⟩ (by kernel_rfl) rfl
    (fun f fn hf hfn => by
      obtain rfl : f = 4 := Option.some.inj ((show Tryd.prog.funcNamed "flotsam/flotsamlaw34.PackBack" = some 4 by kernel_rfl).symm.trans hf) |>.symm
      obtain rfl : fn = Tryd.f4 := (Option.some.inj (Tryd.func4.symm.trans hfn)).symm
      exact ⟨by kernel_rfl, fun j t ht => by
        rw [Tryd.params4] at ht
        have hm : t ∈ [26, 26, 27] := by simpa using Array.mem_of_getElem? ht
        have hall : ([26, 26, 27].all fun u => !Tryd.prog.wantsStandIn u) = true := by kernel_rfl
        exact (show Tryd.prog.wantsStandIn t = false by simpa using List.all_eq_true.1 hall t hm)⟩)
    (by kernel_rfl)
#print axioms proved
end Go.Proofs.YteafmhnbeobboaaDoor.packBack
