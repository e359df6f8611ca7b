/-
  The law 'AlikeSame' of flotsamlaw41 is true for every input, where the listed variables of Go's library read as its text lays them: the row and its tied card, the given statement 'AlikeSameCardSaid'.
-/
import Derived.Test.YtbgblfbbeamleaaGreatDoorSpecAk
import Derived.Lib.LaidTab
import Derived.Test.YtbgblfbbeamleaaGreatDoorXts
import Derived.HandedShaped
import Derived.Shelf.Vars
import Derived.Test.YtbgblfbbeamleaaGreatDoorCards
import Derived.Test.YtbgblfbbeamleaaGreatDoorTie
import Derived.SevenTiedAt
import Derived.Lay
import Derived.WalkKit
import Derived.ProofKit
import Derived.OpenShut
import Derived.ShutString
import Derived.Carry
import Derived.Test.YtbgblfbbeamleaaGreatDoorCheck
import Derived.Test.YtbgblfbbeamleaaGreatDoorLaw
import Derived.Test.YtbgblfbbeamleaaGreatDoorDoor
import Derived.Test.YtbgblfbbeamleaaGreatDoorSpecAm
namespace Go.Proofs.YtbgblfbbeamleaaGreatDoor.alikeSame
open Go.ChangeShapes Go.WideShapes Go.ChangeAt Go.RowKit
open Go.AM
open Go.ChangeMaps (open_string shut_string)
set_option linter.unusedVariables false
set_option linter.unusedSimpArgs false

theorem own : ownKnob Tryz.prog.godebug = none := by kernel_rfl
theorem laidOut : laidOutB Tryz.prog = true := by kernel_rfl
theorem globals (w : World) (h : w.ShapedOpen Tryz.prog) : ∀ g ∈ globs Tryz.prog, ∃ m : Int, w.cell? ⟨g, 0, none⟩ = some (.int .i64 m) := by
  intro g hg
  have he : globs Tryz.prog = [1] := by kernel_rfl
  rw [he] at hg
  obtain rfl := List.mem_singleton.1 hg
  exact cell_of_shapedOpen_int (zero := #[.int .i64 0]) (t := 3) h (of_decide_eq_true (by kernel_rfl)) (by kernel_rfl) rfl (by kernel_rfl) (by kernel_rfl) Tryz.underlying3

def laid : List (String × DataW Unit) := [("unicode/utf8.acceptRanges", Rows.laid_unicode_utf8_acceptRanges), ("unicode.White_Space", Rows.laid_unicode_White_Space), ("bytes.ErrTooLarge", Rows.laid_bytes_ErrTooLarge), ("strings.asciiSpace", Rows.laid_strings_asciiSpace), ("unicode/utf8.first", Rows.laid_unicode_utf8_first)]

set_option maxRecDepth 100000 in
theorem tables (w : World) (h : laidMetH Tryz.prog laid w) : ∀ p ∈ tabs Tryz.prog, ∀ (j : Nat) (x : Value), p.2[j]? = some x → w.cell? ⟨p.1, j, none⟩ = some x := by
  rw [MakeChecks.laidMetH_plain _ _ _ (by kernel_rfl)] at h
  have h1 : laidMet Tryz.prog (("strings.asciiSpace", Rows.laid_strings_asciiSpace) :: [("unicode/utf8.first", Rows.laid_unicode_utf8_first)]) w := laidMet_rest (laidMet_rest (laidMet_rest (h)))
  have h2 : laidMet Tryz.prog (("strings.asciiSpace", Lib.tabData .u8 Lib.asciiSpaceTab) :: [("unicode/utf8.first", Rows.laid_unicode_utf8_first)]) w := by
    have e : (("strings.asciiSpace", Rows.laid_strings_asciiSpace) : String × DataW Unit) = ("strings.asciiSpace", Lib.tabData .u8 Lib.asciiSpaceTab) := by kernel_rfl
    rw [e] at h1
    exact h1
  have h3 : Lib.TabIs Tryz.prog w "strings.asciiSpace" .u8 Lib.asciiSpaceTab := Lib.tabIs_of_head (g := 0) (t := 462) (e := 5) (n := 256) (by kernel_rfl) (by kernel_rfl) Tryz.underlying462 Tryz.underlying5 (by kernel_rfl) (by kernel_rfl) h2
  intro p hp j x hx
  rw [exts.tabs_eq, List.mem_singleton] at hp
  subst hp
  have hj : j < Lib.asciiSpaceTab.length := by
    rcases Nat.lt_or_ge j Lib.asciiSpaceTab.length with h | h
    · exact h
    · rw [List.getElem?_eq_none (by unfold spaceTab; simpa using h)] at hx; cases hx
  have h4 := h3.cell (by kernel_rfl : Tryz.prog.globalNamed "strings.asciiSpace" = some 0) j hj
  rw [h4, ← hx]
  unfold spaceTab
  rw [List.getElem?_map, List.getElem?_eq_getElem hj, List.getD_eq_getElem?_getD, List.getElem?_eq_getElem hj]
  rfl

def ttys : List TypeId := [26, 22, 23, 24, 3, 43, 40, 41, 36, 5, 38, 70]
theorem tplain : ∀ t ∈ ttys, plainAt Tryz.prog ttys t = true := List.all_eq_true.1 (show ttys.all (plainAt Tryz.prog ttys) = true by kernel_rfl)
theorem trace : Spec.TrTys Tryz.prog 26 22 23 24 3 43 40 41 36 5 38 70 where
  t := ⟨_, Tryz.underlying26, rfl⟩
  e := ⟨_, Tryz.underlying43, rfl⟩
  w := ⟨_, Tryz.underlying40, rfl⟩
  g := ⟨_, Tryz.underlying38, rfl⟩
  s := ⟨_, Tryz.underlying70, rfl⟩
  le := Tryz.underlying22
  ls := Tryz.underlying23
  r := Tryz.underlying24
  i := Tryz.underlying3
  lt := Tryz.underlying41
  v := Tryz.underlying36
  b := Tryz.underlying5
  ce := by kernel_rfl
  cs := by kernel_rfl
  cg := by kernel_rfl

theorem walk (t0 : Spec.Tr) (k0 : t0.ok) (x0 : Value) (t1 : Spec.Tr) (k1 : t1.ok) (x1 : Value) (w : World) (hgl : VarsOK (globs Tryz.prog) (tabs Tryz.prog) w)             (r0 : R w (fun _ _ => False) [] (.agg t0.cells) x0) (r1 : R w (fun _ _ => False) [] (.agg t1.cells) x1) :
    Calls Tryz.prog 3 #[x0, x1] w fun e w' => e = .returned (.bool true) ∧ Below w.heap.size w w' := by
  obtain ⟨_, he⟩ := Spec.AlikeSame_eq t0 k0 t1 k1
  refine law_eval fits fitsW (fun lim => exts.exts_ok) (fun lim => drw_ok) lt_flotsamlaw41_AlikeSame he w hgl _ rfl ?_
  intro j v x hv hx
  rcases j with _ | j
  · simp only [List.getElem?_cons_succ, List.getElem?_cons_zero, Option.some.injEq] at hv; subst hv; simp at hx; subst hx; exact r0
  rcases j with _ | j
  · simp only [List.getElem?_cons_succ, List.getElem?_cons_zero, Option.some.injEq] at hv; subst hv; simp at hx; subst hx; exact r1
  simp at hv

set_option maxRecDepth 100000 in
theorem lifted (os : Os) (started : os.Started) (H : Type) (enc : TypeId × Value → H) :
    ReturnsInHanded {} Tryz.checked os 3 .any (fun w args => (Rows.alikeSameSpec.pre enc Tryz.prog Tryz.f3 [] false w args ∧ laidMetH Tryz.prog laid w) ∧ sizedMet enc Tryz.prog Tryz.f3 (OpenSpec.ofChange Rows.alikeSameSpec) false w args)
      (Rows.alikeSameSpec.post enc Tryz.prog Tryz.f3 false true false false) := by
  refine returns_door (C := Tryz.checked) (X := fun w _ => laidMetH Tryz.prog laid w) (fun _ _ _ hh h => h.of_heap hh) own started (by kernel_rfl) Tryz.func3
    (ChangeSpec.witness_shaped (enc := enc) (C := Tryz.checked) (os := os) (X := fun w _ => laidMetH Tryz.prog laid w) false (World.laidAll Tryz.prog os laid) #[.agg #[.slice none 0 0, .slice none 0 0, .int .i64 0, .int .i64 0], .agg #[.slice none 0 0, .slice none 0 0, .int .i64 0, .int .i64 0]] 8 (World.laidAll_os _ _ _)
      (World.shaped_of_ZipB (by kernel_rfl) (by kernel_rfl)) (by kernel_rfl) (by kernel_rfl) (by kernel_rfl)
      (by rw [MakeChecks.laidMetH_plain _ _ _ (by kernel_rfl)]; exact laidMet_laidAll _ (by kernel_rfl) (by kernel_rfl))) ?_
  intro W base args ds gs before hval0 hW _ hsh hlaid
  have hval : ∀ (j : Nat) t v, Tryz.f3.params[j]? = some t → args[j]? = some v → Value.okWide Tryz.prog W .any base t v := hval0
  have hW' := hW
  obtain ⟨p, q, hA0, hV, rfl, hfz, hnd⟩ := hW
  have hA : DataW.TrodAll enc Tryz.prog W 0 (fun _ => true) true Tryz.f3.params.toList args.toList ds p := hA0
  rw [Tryz.params3] at hA hval
  obtain ⟨v0, vs0, d0, ds0, p0, q0, hargs, rfl, rfl, h0, r0⟩ := trodAll_cons hA
  obtain ⟨v1, vs1, d1, ds1, p1, q1, rfl, rfl, rfl, h1, r1⟩ := trodAll_cons r0
  obtain ⟨rfl, rfl, rfl⟩ := trodAll_nil r1
  obtain rfl : args = #[v0, v1] := by cases args; simp_all
  obtain ⟨rfl, rfl⟩ := trodVars_none hV
  obtain ⟨c0, ty0, R0⟩ := open_struct tplain (by decide) Tryz.underlying26 (hval 0 26 v0 rfl rfl) h0
  obtain ⟨t0, rfl, ok0⟩ := Spec.trace_of trace ty0
  obtain ⟨c1, ty1, R1⟩ := open_struct tplain (by decide) Tryz.underlying26 (hval 1 26 v1 rfl rfl) h1
  obtain ⟨t1, rfl, ok1⟩ := Spec.trace_of trace ty1
  clear hA0 hval0
  simp only [List.append_nil] at hW'
  have hlt := fun x hx => DataW.Whole.lt hW' x hx
  refine (walk t0 ok0 v0 t1 ok1 v1 W ⟨globals W hsh, tables W hlaid⟩ R0 R1).mono fun e W' ⟨he, hg⟩ => ?_
  subst he
  refine ⟨_, rfl, post_below (pa := _) (pv := []) hW' (fun _ _ _ => (trodAll_cons_mk (shut_bool Tryz.underlying4 _) trodAll_mk0)) (fun sp hsp => (trodAll_cons_mk (WideElems.Trod_stays laidOut (by kernel_rfl) (of_decide_eq_true (by kernel_rfl)) h0 (fun x hx => hg.same (hlt x (by simp [hx]))) (fun x hx => hsp x (by simp [hx]))) (trodAll_cons_mk (WideElems.Trod_stays laidOut (by kernel_rfl) (of_decide_eq_true (by kernel_rfl)) h1 (fun x hx => hg.same (hlt x (by simp [hx]))) (fun x hx => hsp x (by simp [hx]))) trodAll_mk0))) (fun _ _ => rfl) ?_ hg⟩
  simp

end Go.Proofs.YtbgblfbbeamleaaGreatDoor.alikeSame
