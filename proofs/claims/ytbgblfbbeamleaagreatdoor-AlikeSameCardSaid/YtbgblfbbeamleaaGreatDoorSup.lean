/-
  The contract of layout.super: it answers four letters and zeros.
-/
import Derived.Test.YtbgblfbbeamleaaGreatDoorFnc
import Derived.Test.YtbgblfbbeamleaaGreatDoorSpc
import Derived.Test.YtbgblfbbeamleaaGreatDoorCheck
import Derived.WalkKit
import Derived.Great.BuildSlice
import Derived.Test.YtbgblfbbeamleaaGreatDoorShelf
namespace Go.Proofs.YtbgblfbbeamleaaGreatDoor.sup
open Go.AM Go.AM.Spec Go.RowKit Go.Shelf
set_option linter.unusedVariables false
set_option linter.unusedSimpArgs false
set_option maxRecDepth 10000

abbrev mark : List UInt8 := [70, 76, 79, 84]
abbrev supL : List Int := [70, 76, 79, 84] ++ List.replicate 28 0
abbrev supV : Array Value := (supL.map (Value.int .u8)).toArray

theorem of_eval : eval tbl (fun _ => none) n_sector_Of [.sl 1 (bytesRows mark)] [] = some (.tup [.agg (supL.map (V.int .u8)), .bool true], []) :=
  (eval_iff ..).2 ⟨30, by kernel_rfl⟩

theorem of_calls (w : World) (hg : VarsOK (globs Tryz.prog) (tabs Tryz.prog) w) (b c : Nat) (hc : ∀ j, (h : j < mark.length) → w.cell? ⟨b, j, none⟩ = some (.int .u8 (mark[j].toNat : Int))) (hcap : 4 ≤ c) :
    Calls Tryz.prog 69 #[.slice (some ⟨b, 0, none⟩) 4 c] w fun e w' => e = .returned (.tuple #[.agg supV, .bool true]) ∧ Below w.heap.size w w' := by
  obtain ⟨n, hn⟩ := (eval_iff ..).1 of_eval
  refine (fn_calls fits fitsW (fun _ _ _ h => by cases h) lt_sector_Of hn w hg _ rfl ?_).mono ?_
  · intro j v x hv hx
    rcases j with _ | j
    · simp at hv hx; subst hv; subst hx
      refine .pr ?_
      have := PR.sl (w := w) (F := fun _ _ => False) 1 (bytesRows mark) (some ⟨b, 0, none⟩) c b 0 (fun i _ => .int .u8 ((mark[i]?).getD 0).toNat) hcap (fun h => by cases h) (by decide) (fun _ => rfl)
        (fun i j r v h1 h2 => ⟨by
          simp only [bytesRows, List.getElem?_map, Option.map_eq_some_iff] at h1
          obtain ⟨y, hy, rfl⟩ := h1
          rcases j with _ | j
          · have hi := (List.getElem?_eq_some_iff.1 hy)
            obtain ⟨hi, hy'⟩ := hi
            have := hc i hi
            simp only [Nat.zero_add, Nat.mul_one, Nat.add_zero]
            rw [this, hy, hy']
            rfl
          · simp at h2, fun h => h⟩)
        (fun i j r v h1 h2 => by
          simp only [bytesRows, List.getElem?_map, Option.map_eq_some_iff] at h1
          obtain ⟨y, hy, rfl⟩ := h1
          rcases j with _ | j
          · simp at h2; subst h2
            rw [hy]
            exact .int _ _
          · simp at h2)
      exact this
    · simp at hv
  · rintro e w' ⟨x, rfl, ⟨F, ι, tl, hR⟩, hb⟩
    refine ⟨?_, hb⟩
    have hR := ((RL_other (by simp)).1 hR).1
    obtain ⟨xs, rfl, hs, hv⟩ := hR.tup_inv
    have e0 := hv 0 _ (xs[0]'(by rw [hs]; decide)) rfl (by simp)
    have e1 := (hv 1 _ (xs[1]'(by rw [hs]; decide)) rfl (by simp)).bool_inv
    have e0 := R_ints e0
    congr 2
    apply Array.ext (by simpa using hs)
    intro i h1 h2
    have : i < 2 := by simpa using h2
    rcases i with _ | _ | i
    · exact e0
    · exact e1
    · omega

theorem zero26 : zeroIs Tryz.prog 36 (List.replicate 32 (V.int .u8 0)) = true := by kernel_rfl
theorem agg26 : aggIs Tryz.prog 36 (some 32) = true := by kernel_rfl
theorem size26 : sizeIs Tryz.prog 36 32 = true := by kernel_rfl
abbrev mrk : Array Value := #[.int .u8 70, .int .u8 76, .int .u8 79, .int .u8 84]

theorem vars_below {gl : List Nat} {tb : List (Nat × List Value)} {w W : World} (h : VarsOK gl tb w) (hb : Below w.heap.size w W) : VarsOK gl tb W := by
  refine ⟨fun i hi => ?_, fun p hp j x hx => ?_⟩
  · obtain ⟨m, hm⟩ := h.1 i hi
    exact ⟨m, by rw [hb.cell (World.block_lt_of_cell? _ _ hm)]; exact hm⟩
  · have hm := h.2 p hp j x hx
    rw [hb.cell (World.block_lt_of_cell? _ _ hm)]; exact hm

set_option maxHeartbeats 400000 in
theorem super_calls (w : World) (hg : VarsOK (globs Tryz.prog) (tabs Tryz.prog) w) :
    Calls Tryz.prog 47 #[] w fun e w' => e = .returned (.agg supV) ∧ Below w.heap.size w w' := by
  go_enter Tryz.func47, Tryz.ntmps47
  obtain ⟨z, hz, e1⟩ := run_alloc0 (P := Tryz.prog) (a := { tmps := #[undef, undef, undef, undef, undef, undef, undef, undef, undef, undef], defers := [] }) (o := { dst := some 0, op := Op.alloc 36, type := 0, pos := "layout.go:108", after := #[], guard := none }) zero26 rfl w
  refine wp_seq (wp_region_list (wl_val rfl e1 (wpList_nil ?_)))
  have b1 : Below w.heap.size w (w.alloc (.cells z 36)) := (Below.refl _ w).alloc (Nat.le_refl _) _
  have r1 : (w.alloc (.cells z 36)).heap[w.heap.size]? = some (.cells z 36 (0, 0)) := heap_alloc_new _ _
  have s1 : (w.alloc (.cells z 36)).heap.size = w.heap.size + 1 := by simp
  generalize w.alloc (.cells z 36) = W1 at *
  refine wp_seq (wp_region_list ?_)
  refine wpList_buildSlice rfl 162 5 4 _ rfl mrk _ _ (by exact Tryz.underlying162) rfl rfl (by decide) (by decide) (by kernel_rfl) ?_
  have b2 : Below W1.heap.size W1 (W1.alloc (.cells mrk 5)) := (Below.refl _ W1).alloc (Nat.le_refl _) _
  have r2 : (W1.alloc (.cells mrk 5)).heap[W1.heap.size]? = some (.cells mrk 5 (0, 0)) := heap_alloc_new _ _
  have s2 : (W1.alloc (.cells mrk 5)).heap.size = W1.heap.size + 1 := by simp
  generalize W1.alloc (.cells mrk 5) = W2 at *
  have e3 : ∀ (a : Act) (o : Oper), a.eval (.tmp 4) = .slice (some ⟨W1.heap.size, 0, none⟩) 4 4 → o.op = .convert 162 162 (.tmp 4) → (execOp a.eval o).run Tryz.prog W2 = .ok (.value (.slice (some ⟨W1.heap.size, 0, none⟩) 4 4)) (W2.freeze ⟨W1.heap.size, 4, none⟩ 1) := by
    intro a o ha ho
    simp [execOp, ho, ha, convert, run_underlying Tryz.underlying162, run_underlying Tryz.underlying5, markStringish, World.shape?, r2]
  refine wl_val rfl (e3 _ _ rfl rfl) ?_
  have r3 : (W2.freeze ⟨W1.heap.size, 4, none⟩ 1).heap[W1.heap.size]? = some (.cells mrk 5 (4, 5)) := by
    rw [freeze_heap, if_pos rfl, r2]; rfl
  have b3 : Below W1.heap.size W2 (W2.freeze ⟨W1.heap.size, 4, none⟩ 1) := by
    refine ⟨by unfold World.freeze; rfl, by unfold World.freeze; rfl, by unfold World.freeze; rfl, by unfold World.freeze; simp, fun k hk => ?_⟩
    rw [freeze_heap, if_neg (by omega)]
  have s3 : (W2.freeze ⟨W1.heap.size, 4, none⟩ 1).heap.size = W2.heap.size := by unfold World.freeze; simp
  generalize W2.freeze ⟨W1.heap.size, 4, none⟩ 1 = W3 at *
  have b03 : Below w.heap.size w W3 := (b1.trans (b2.mono (by omega))).trans (b3.mono (by omega))
  have hcall := of_calls W3 (vars_below hg b03) W1.heap.size 4 (by
    intro j hj
    rw [cell_of_obj r3]
    match j, hj with
    | 0, _ => rfl
    | 1, _ => rfl
    | 2, _ => rfl
    | 3, _ => rfl) (Nat.le_refl _)
  have e46 : ∀ args w, (callFunc 69 args).run Tryz.prog w = .ok (.enter 69 args) w := enters_of Tryz.func69 (by kernel_rfl) rfl
  have e4 : ∀ (a : Act) (o : Oper), a.eval (.tmp 5) = .slice (some ⟨W1.heap.size, 0, none⟩) 4 4 → o.op = .call { callee := .value (.func 69), args := #[.tmp 5], argTypes := #[162] } → (execOp a.eval o).run Tryz.prog W3 = .ok (.enter 69 #[.slice (some ⟨W1.heap.size, 0, none⟩) 4 4]) W3 := by
    intro a o ha ho
    have hf : a.eval (.func 69) = .func (.func 69) #[] #[] := rfl
    simp [execOp, ho, ha, hf, e46, resolve, invoke, Deferred.ofValue]
  refine wl_call rfl (e4 _ _ rfl rfl) (hcall.mono ?_)
  rintro e W4 ⟨rfl, b4⟩
  refine ⟨_, rfl, ?_⟩
  refine wl_val rfl (w' := W4) (v := .tuple #[.agg supV, .bool true]) rfl ?_
  refine wl_val rfl (w' := W4) (v := .agg supV) rfl ?_
  refine wl_val rfl (w' := W4) (v := .bool true) rfl ?_
  have ez : z.size = 32 := by rw [hz]; rfl
  obtain ⟨z2, hz2, e5⟩ := run_alloc0 (P := Tryz.prog) (a := { tmps := #[.pointer (some ⟨w.heap.size, 0, none⟩), undef, undef, .tuple #[.agg supV, .bool true], .slice (some ⟨W1.heap.size, 0, none⟩) 4 4, .slice (some ⟨W1.heap.size, 0, none⟩) 4 4, .tuple #[.agg supV, .bool true], .agg supV, .bool true, undef], defers := [] }) (o := { dst := some 1, op := Op.alloc 36, type := 0, pos := "layout.go:109", after := #[], guard := none }) zero26 rfl W4
  have ez2 : z2.size = 32 := by rw [hz2]; rfl
  refine wl_val rfl e5 ?_
  have b5 : Below W4.heap.size W4 (W4.alloc (.cells z2 36)) := (Below.refl _ W4).alloc (Nat.le_refl _) _
  have r5 : (W4.alloc (.cells z2 36)).heap[W4.heap.size]? = some (.cells z2 36 (0, 0)) := heap_alloc_new _ _
  generalize W4.alloc (.cells z2 36) = W5 at *
  have sz3 := b03.size
  have sz4 := b4.size
  have sz5 := b5.size
  have hone : ∀ x ∈ supV.toList, x.oneCell' = true := by decide
  generalize hD : W4.heap.size = D at *
  obtain ⟨W6, e6, k6⟩ := run_store0 (P := Tryz.prog) (w := W5) (xs := supV) (off := 0) (c := z2) size26 rfl hone r5 (by omega)
  show wpList _ _ _ _ (⟨#[.pointer (some ⟨w.heap.size, 0, none⟩), (.pointer (some ⟨D, 0, none⟩)), undef, .tuple #[.agg supV, .bool true], .slice (some ⟨W1.heap.size, 0, none⟩) 4 4, .slice (some ⟨W1.heap.size, 0, none⟩) 4 4, .tuple #[.agg supV, .bool true], .agg supV, .bool true, undef], []⟩ : Act) W5
  refine wl_skip rfl (e6 _ _ (.tmp 1) (.tmp 7) rfl rfl rfl) ?_
  show wpList _ _ _ _ (⟨#[.pointer (some ⟨w.heap.size, 0, none⟩), (.pointer (some ⟨D, 0, none⟩)), undef, .tuple #[.agg supV, .bool true], .slice (some ⟨W1.heap.size, 0, none⟩) 4 4, .slice (some ⟨W1.heap.size, 0, none⟩) 4 4, .tuple #[.agg supV, .bool true], .agg supV, .bool true, undef], []⟩ : Act) W6
  obtain ⟨⟨c6, r6, _⟩, q6⟩ := k6.cells r5 (by rw [ez2]; decide)
  refine wl_val rfl (w' := W6) (v := .bool true) rfl ?_
  show wpList _ _ _ _ (⟨#[.pointer (some ⟨w.heap.size, 0, none⟩), (.pointer (some ⟨D, 0, none⟩)), (.bool true), .tuple #[.agg supV, .bool true], .slice (some ⟨W1.heap.size, 0, none⟩) 4 4, .slice (some ⟨W1.heap.size, 0, none⟩) 4 4, .tuple #[.agg supV, .bool true], .agg supV, .bool true, undef], []⟩ : Act) W6
  refine wpList_nil ?_
  refine wp_seq (wp_region_list ?_)
  have hrow : W6.heap[w.heap.size]? = some (.cells z 36 (0, 0)) := by
    rw [k6.other _ (by omega), b5.block _ (by omega), b4.block _ (by omega), b3.block _ (by omega), b2.block _ (by omega)]
    exact r1
  refine wl_val rfl (w' := W6) (v := .agg supV) (run_load0 (xs := supV) (X := .tmp 1) agg26 rfl rfl rfl q6) ?_
  show wpList _ _ _ _ (⟨#[.pointer (some ⟨w.heap.size, 0, none⟩), (.pointer (some ⟨D, 0, none⟩)), (.bool true), .tuple #[.agg supV, .bool true], .slice (some ⟨W1.heap.size, 0, none⟩) 4 4, .slice (some ⟨W1.heap.size, 0, none⟩) 4 4, .tuple #[.agg supV, .bool true], .agg supV, .bool true, (.agg supV)], []⟩ : Act) W6
  obtain ⟨W7, e7, k7⟩ := run_store0 (P := Tryz.prog) (w := W6) (xs := supV) (off := 0) (c := z) size26 rfl hone hrow (by omega)
  refine wl_skip rfl (e7 _ _ (.tmp 0) (.tmp 9) rfl rfl rfl) ?_
  show wpList _ _ _ _ (⟨#[.pointer (some ⟨w.heap.size, 0, none⟩), (.pointer (some ⟨D, 0, none⟩)), (.bool true), .tuple #[.agg supV, .bool true], .slice (some ⟨W1.heap.size, 0, none⟩) 4 4, .slice (some ⟨W1.heap.size, 0, none⟩) 4 4, .tuple #[.agg supV, .bool true], .agg supV, .bool true, (.agg supV)], []⟩ : Act) W7
  obtain ⟨_, q7⟩ := k7.cells hrow (by rw [ez]; decide)
  refine wpList_nil ?_
  refine wp_ret ?_
  have hbb : Below w.heap.size w W7 := (((b03.trans (b4.mono (by omega))).trans (b5.mono (by omega))).trans (k6.below (by omega))).trans (k7.below (Nat.le_refl _))
  exact bodyPost_ret (run_result0 rfl rfl (run_loadVar0 agg26 rfl q7)) rfl ⟨rfl, hbb⟩
end Go.Proofs.YtbgblfbbeamleaaGreatDoor.sup
