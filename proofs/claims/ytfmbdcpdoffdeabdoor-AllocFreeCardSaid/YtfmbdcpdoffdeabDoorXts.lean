/-
  The functions taken as given: their contracts, over the program.
-/
import Derived.Test.YtfmbdcpdoffdeabDoorRin
import Derived.Shelf.Strings.SlTrimAscii
namespace Go.Proofs.YtfmbdcpdoffdeabDoor.exts
open Go.AM Go.AM.Spec Go.RowKit Go.Lib Go.Shelf
set_option linter.unusedVariables false
set_option linter.unusedSimpArgs false
set_option maxHeartbeats 1000000
set_option maxRecDepth 10000

theorem two {xs : Array Value} {a b : V} (h : xs.size = [a, b].length) : ∃ x0 x1, xs = #[x0, x1] := by
  obtain ⟨l⟩ := xs
  match l, h with
  | [x, y], _ => exact ⟨x, y, rfl⟩

theorem trim_real {lim : Option Nat} (s t : List UInt8) (hs : s.length ≤ 1000000) (ht : t.length ≤ 1000000) (ha : (t.all fun b => decide (b.toNat < 128)) = true) (H : Heap) : RealCall (EL Tryd.prog tbl lim) Tryd.prog n_strings_Trim [.str s, .str t] H (.str (trimS s t)) H := by
  refine ext_real (r := .str _) (x := .string ⟨(trimS s t).toArray⟩) lt_strings_Trim (by kernel_rfl) (fun w F ι => .pr (.str _)) (fun _ _ h => by cases h) (fun w xs hgl hl hx => ?_)
  obtain ⟨x0, x1, rfl⟩ := two hl
  obtain ⟨_, _, _, r0⟩ := hx 0 _ x0 rfl rfl
  obtain ⟨_, _, _, r1⟩ := hx 1 _ x1 rfl rfl
  rw [RL_str r0, RL_str r1]
  exact Any.strings_Trim_laid Tryd.lays160 (by kernel_rfl) ⟨s.toArray⟩ ⟨t.toArray⟩ w (by show s.toArray.size ≤ _; simp; omega) (by show t.toArray.size < _; simp; omega) (ascii_of_all ha)

theorem rin_real {lim : Option Nat} (k s a b c d : Int) (H : Heap) : RealCall (EL Tryd.prog tbl lim) Tryd.prog n_layout_RightInode [.agg [iw k, iw s, iw a, iw b, iw c, iw d]] H (.bool (inoOK k s a b c d)) H := by
  refine ext_real (r := .bool _) (x := .bool (inoOK k s a b c d)) lt_layout_RightInode (by kernel_rfl) (fun w F ι => .pr (.bool _)) (fun _ _ h => by cases h) (fun w xs hgl hl hx => ?_)
  obtain ⟨x0, rfl⟩ : ∃ x0, xs = #[x0] := by
    obtain ⟨l⟩ := xs
    match l, hl with
    | [x], _ => exact ⟨x, rfl⟩
  obtain ⟨F, ι, tl, r0⟩ := hx 0 _ x0 rfl rfl
  have r1 := ((RL_other (by simp)).1 r0).1
  have e : [iw k, iw s, iw a, iw b, iw c, iw d] = [k, s, a, b, c, d].map (V.int .i64) := rfl
  rw [e] at r1
  rw [R_ints r1]
  exact rin.all_calls k s a b c d w hgl

theorem exts_ok {lim : Option Nat} : ∀ k e, noExt k = some e → ∀ args H r H', e args H = some (r, H') → RealCall (EL Tryd.prog tbl lim) Tryd.prog k args H r H' := by
  intro k e he args H r H' h
  unfold noExt at he
  split at he
  · rename_i hk
    subst hk
    cases he
    unfold xTrim at h
    split at h
    · split at h
      · rename_i hs
        cases h
        exact trim_real _ _ hs.1 hs.2.1 hs.2.2 _
      · cases h
    · cases h
  · split at he
    · rename_i hk
      subst hk
      cases he
      unfold xRightInode at h
      split at h
      · cases h
        exact rin_real _ _ _ _ _ _ _
      · cases h
    · cases he

end Go.Proofs.YtfmbdcpdoffdeabDoor.exts
