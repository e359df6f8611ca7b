/-
  The contract of layout.RightInode at a file: the list of its blocks is sorted, and equal neighbours go.
-/
import Derived.Test.YtfmbdcpdoffdeabDoorFnc
import Derived.Test.YtfmbdcpdoffdeabDoorCheck
import Derived.Test.YtfmbdcpdoffdeabDoorShelf
import Derived.WalkKit
import Derived.Test.YtfmbdcpdoffdeabDoorSpecLi
import Derived.Lib.OwnBridge
import Derived.Deep.RegionHeldLaw
namespace Go.Proofs.YtfmbdcpdoffdeabDoor.rin
open Go.AM Go.AM.Spec Go.RowKit Go.Shelf
set_option linter.unusedVariables false
set_option linter.unusedSimpArgs false
set_option maxRecDepth 10000
set_option maxHeartbeats 1000000

theorem vars_below {gl : List Nat} {tb : List (Nat × List Value)} {w W : World} (h : VarsOK gl tb w) (hb : Below w.heap.size w W) : VarsOK gl tb W := by
  refine ⟨fun i hi => ?_, fun p hp j x hx => ?_⟩
  · obtain ⟨m, hm⟩ := h.1 i hi
    exact ⟨m, by rw [hb.cell (World.block_lt_of_cell? _ _ hm)]; exact hm⟩
  · have hm := h.2 p hp j x hx
    rw [hb.cell (World.block_lt_of_cell? _ _ hm)]; exact hm

theorem need_calls (s : Int) (h0 : 0 ≤ s) (h1 : s ≤ 128) (W : World) : Calls Tryd.prog 54 #[.int .i64 s] W fun e w' => e = .returned (.int .i64 ((s + 31) / 32)) ∧ w' = W := by
  go_enter Tryd.func54, Tryd.ntmps54
  have e1 : IntKind.i64.wrap (s + 32) = s + 32 := w64 (by omega) (by omega)
  have e2 : IntKind.i64.wrap (s + 32 - 1) = s + 31 := by rw [w64 (by omega) (by omega)]; omega
  have e3 : IntKind.i64.wrap ((s + 31).tdiv 32) = (s + 31) / 32 := by
    rw [Int.tdiv_eq_ediv_of_nonneg (by omega)]
    exact w64 (by omega) (by omega)
  go_wp2
  go_ret
  exact ⟨rfl, rfl⟩

theorem contains_calls {f : Nat} {l : List Int} {r : Bool} (hev : eval tbl (fun _ => none) n_slices_ContainsFunc_int_int [.sl 1 (l.map fun a => [iw a]), .fn (.func f) [] []] [] = some (.bool r, [])) (W : World) (hg : VarsOK (globs Tryd.prog) (tabs Tryd.prog) W)
    (ad : Addr) (b off n cap : Nat) (hn : n = l.length) (had : l ≠ [] → ad = ⟨b, off, none⟩) (hc : ∀ j, (h : j < l.length) → W.cell? ⟨b, off + j, none⟩ = some (.int .i64 l[j])) (hcap : n ≤ cap) :
    Calls Tryd.prog 56 #[.slice (some ad) n cap, .func (.func f) #[] #[]] W fun e w' => e = .returned (.bool r) ∧ Below W.heap.size W w' := by
  obtain ⟨m, hm⟩ := (eval_iff ..).1 hev
  refine (fn_calls fits fitsW (fun _ _ _ h => by cases h) lt_slices_ContainsFunc_int_int hm W hg _ rfl ?_).mono ?_
  · intro j v x hv hx
    rcases j with _ | _ | j
    · simp at hv hx; subst hv; subst hx
      refine .pr ?_
      have hll : (l.map fun a => [iw a]).length = n := by simp [hn]
      have := PR.sl (w := W) (F := fun _ _ => False) 1 (l.map fun a => [iw a]) (some ad) cap b off (fun i _ => .int .i64 ((l[i]?).getD 0)) (by rw [hll]; exact hcap) (fun h => by cases h) (by simp) (fun hne => by rw [had (by rintro rfl; exact hne rfl)])
        (fun i j r v h1 h2 => ⟨by
          simp only [List.getElem?_map, Option.map_eq_some_iff] at h1
          obtain ⟨y, hy, rfl⟩ := h1
          rcases j with _ | j
          · obtain ⟨hi, hy'⟩ := List.getElem?_eq_some_iff.1 hy
            simp only [Nat.mul_one, Nat.add_zero]
            rw [hc i hi, hy, hy']
            rfl
          · simp at h2, fun h => h⟩)
        (fun i j r v h1 h2 => by
          simp only [List.getElem?_map, Option.map_eq_some_iff] at h1
          obtain ⟨y, hy, rfl⟩ := h1
          rcases j with _ | j
          · simp at h2; subst h2
            rw [hy]
            exact .int _ _
          · simp at h2)
      rw [hll] at this
      exact this
    · simp at hv hx; subst hv; subst hx
      exact .pr (.fn _)
    · simp at hv
  · rintro e w' ⟨x, rfl, ⟨F, ι, tl, hR⟩, hb⟩
    have := ((RL_other (by simp)).1 hR).1.bool_inv
    subst this
    exact ⟨rfl, hb⟩

theorem below_grow0 (w : World) (os : Array Obj) : Below w.heap.size w (Go.Sort.grow w os) :=
  ⟨rfl, rfl, rfl, by simp [Go.Sort.grow], fun k hk => by simp only [Go.Sort.grow]; rw [Array.getElem?_append_left hk]⟩

theorem holds_below {w w' : World} {b off : Nat} {d : Array Int} (hb : Below w.heap.size w w') (h : Go.Sort.Holds (Value.int .i64) w b off d) (hlt : b < w.heap.size) : Go.Sort.Holds (Value.int .i64) w' b off d := by
  intro j hj
  obtain ⟨h1, h2⟩ := h j hj
  refine ⟨by rw [hb.cell hlt]; exact h1, ?_⟩
  unfold World.frozen? at h2 ⊢
  rw [hb.block _ hlt]
  exact h2

/-- What a sorted list keeps when equal neighbours go. -/
theorem compact_nodup (l : List Int) : (Go.Lib.compact (l.mergeSort fun x y => decide (x ≤ y))).length = l.length ↔ l.Nodup := by
  obtain ⟨t, ht⟩ : ∃ t, t = l.mergeSort fun x y => decide (x ≤ y) := ⟨_, rfl⟩
  have hp : t.Perm l := ht ▸ List.mergeSort_perm _ _
  have hs : t.Pairwise (fun x y => decide (x ≤ y) = true) := ht ▸ List.pairwise_mergeSort (fun a b c h1 h2 => by simp at *; omega) (fun a b => by simp; omega) l
  rw [← ht, ← hp.length_eq, ← hp.nodup_iff]
  unfold Go.Lib.compact Go.Lib.compactUpTo
  rw [List.length_map]
  have key : (((List.range t.length).filter (Go.Lib.keeps t.toArray)).length = t.length) ↔ ∀ j, j < t.length → Go.Lib.keeps t.toArray j = true := by
    have := List.length_filter_eq_length_iff (p := Go.Lib.keeps t.toArray) (l := List.range t.length)
    rw [List.length_range] at this
    rw [this]
    simp
  rw [key]
  have hk : ∀ j, j < t.length → (Go.Lib.keeps t.toArray j = true ↔ j = 0 ∨ t[j]! ≠ t[j - 1]!) := by
    intro j hj
    unfold Go.Lib.keeps
    simp
  rw [List.pairwise_iff_getElem] at hs
  constructor
  · intro h
    rw [List.nodup_iff_pairwise_ne, List.pairwise_iff_getElem]
    intro i j hi hj hij
    have h1 := (hk j hj).1 (h j hj)
    have h2 : t[j - 1]'(by omega) ≤ t[j] := by simpa using hs (j - 1) j (by omega) hj (by omega)
    have h3 : t[i] ≤ t[j - 1]'(by omega) := by
      rcases Nat.lt_or_ge i (j - 1) with h | h
      · simpa using hs i (j - 1) hi (by omega) h
      · have : i = j - 1 := by omega
        subst this; exact Int.le_refl _
    rcases h1 with h1 | h1
    · omega
    · rw [getElem!_pos t j hj, getElem!_pos t (j - 1) (by omega)] at h1
      omega
  · intro h j hj
    rw [hk j hj]
    by_cases h0 : j = 0
    · exact .inl h0
    · right
      rw [getElem!_pos t j hj, getElem!_pos t (j - 1) (by omega)]
      rw [List.nodup_iff_pairwise_ne, List.pairwise_iff_getElem] at h
      exact fun e => h (j - 1) j (by omega) hj (by omega) e.symm

theorem rin_calls (s b0 b1 b2 b3 : Int) (h0 : 0 ≤ s) (h1 : s ≤ 128) (w : World) (hg : VarsOK (globs Tryd.prog) (tabs Tryd.prog) w) :
    Calls Tryd.prog 51 #[.agg #[.int .i64 1, .int .i64 s, .int .i64 b0, .int .i64 b1, .int .i64 b2, .int .i64 b3]] w fun e w' => e = .returned (.bool (rinB ((s + 31) / 32).toNat [b0, b1, b2, b3])) ∧ Below w.heap.size w w' := by
  have f0 : ¬ s < 0 := by omega
  have f1 : ¬ (128 : Int) < s := by omega
  go_enter Tryd.func51, Tryd.ntmps51
  go_wp2_with (go_at_fn 54; fail)
  refine (need_calls s h0 h1 _).mono ?_
  rintro e W ⟨rfl, rfl⟩
  generalize hn : (s + 31) / 32 = N
  obtain ⟨n, rfl⟩ : ∃ n : Nat, N = n := ⟨N.toNat, by omega⟩
  have g0 : (0 : Int) ≤ (n : Int) := by omega
  have g4 : (n : Int) ≤ 4 := by omega
  go_wp2_with (go_at_fn 53; fail)
  obtain ⟨zs, hzs⟩ : ∃ zs : List Int, zs = [b0, b1, b2, b3] := ⟨_, rfl⟩
  have hz4 : zs.length = 4 := by rw [hzs]; rfl
  have bw1 : Below w.heap.size w (w.alloc (Obj.cells #[Value.int IntKind.i64 1, Value.int IntKind.i64 s, Value.int IntKind.i64 b0, Value.int IntKind.i64 b1, Value.int IntKind.i64 b2, Value.int IntKind.i64 b3] 69)) := (Below.refl _ w).alloc (Nat.le_refl _) _
  have sw1 : (w.alloc (Obj.cells #[Value.int IntKind.i64 1, Value.int IntKind.i64 s, Value.int IntKind.i64 b0, Value.int IntKind.i64 b1, Value.int IntKind.i64 b2, Value.int IntKind.i64 b3] 69)).heap.size = w.heap.size + 1 := by simp
  have rw1 : (w.alloc (Obj.cells #[Value.int IntKind.i64 1, Value.int IntKind.i64 s, Value.int IntKind.i64 b0, Value.int IntKind.i64 b1, Value.int IntKind.i64 b2, Value.int IntKind.i64 b3] 69)).heap[w.heap.size]? = some (Obj.cells #[Value.int IntKind.i64 1, Value.int IntKind.i64 s, Value.int IntKind.i64 b0, Value.int IntKind.i64 b1, Value.int IntKind.i64 b2, Value.int IntKind.i64 b3] 69 (0, 0)) := heap_alloc_new _ _
  generalize w.alloc (Obj.cells #[Value.int IntKind.i64 1, Value.int IntKind.i64 s, Value.int IntKind.i64 b0, Value.int IntKind.i64 b1, Value.int IntKind.i64 b2, Value.int IntKind.i64 b3] 69) = W1 at *
  have cz : ∀ (W : World), W.heap[w.heap.size]? = some (Obj.cells #[Value.int IntKind.i64 1, Value.int IntKind.i64 s, Value.int IntKind.i64 b0, Value.int IntKind.i64 b1, Value.int IntKind.i64 b2, Value.int IntKind.i64 b3] 69 (0, 0)) → (∀ j, j < zs.length → W.cell? ⟨w.heap.size, 2 + j, none⟩ = some (.int .i64 (zs.getD j 0))) ∧ W.cell? ⟨w.heap.size, 1, none⟩ = some (.int .i64 s) := by
    intro W hW
    refine ⟨fun j hj => ?_, by rw [cell_of_obj hW]; rfl⟩
    rw [cell_of_obj hW, hzs]
    rw [hz4] at hj
    match j, hj with
    | 0, _ => rfl
    | 1, _ => rfl
    | 2, _ => rfl
    | 3, _ => rfl
  have cloned := Tryd.slices_Clone_int w.heap.size 2 n 4 zs W1 (by omega) (by omega) (cz W1 rw1).1
  refine cloned.mono ?_
  rintro e W2 ⟨v, rfl, hown, hnil, bb2⟩
  obtain ⟨hlen, hv | ⟨G, cap, cur, rfl, hG, rowG, hcap, hcm, hcs, hcur⟩⟩ := hown
  · exact absurd hv.1 (by rw [hv.1] at hnil; exact absurd rfl hnil)
  have rw2 := (bb2.block _ (by omega)).trans rw1
  have cx2 := (cz W2 rw2).2
  go_wp2_with (go_at_fn 56; fail)
  have hl1 : (zs.take n).length = n := by rw [List.length_take]; omega
  have hl2 : (zs.drop n).length = 4 - n := by rw [List.length_drop]; omega
  have cG : ∀ j, (h : j < (zs.take n).length) → W2.cell? ⟨G, 0 + j, none⟩ = some (.int .i64 (zs.take n)[j]) := by
    intro j hj
    rw [cell_of_obj rowG, Nat.zero_add]
    have h1 : cur.toList[j]? = some (.int .i64 (zs.take n)[j]) := by
      have h2 : (cur.toList.take (n * 1))[j]? = some (.int .i64 (zs.take n)[j]) := by
        rw [hcur, List.getElem?_map, List.getElem?_eq_getElem hj]; rfl
      rw [List.getElem?_take] at h2
      split at h2
      · exact h2
      · cases h2
    simpa using h1
  have bw2 : Below w.heap.size w W2 := bw1.trans (bb2.mono (by omega))
  refine (contains_calls (contains1_0 (zs.take n) (by omega) []) W2 (vars_below hg bw2) ⟨G, 0, none⟩ G 0 n cap hl1.symm (fun _ => rfl) cG hcap).mono ?_
  rintro e W3 ⟨rfl, bb3⟩
  have sz2 := bb2.size
  have sz3 := bb3.size
  have rw3 := (bb3.block _ (by omega)).trans rw2
  have bw3 : Below w.heap.size w W3 := bw2.trans (bb3.mono (by omega))
  cases ho : (zs.take n).any odd24 with
  | true =>
    go_wp2
    go_ret
    refine ⟨?_, bw3⟩
    rw [hn, ← hzs, rinB, Int.toNat_natCast, ho]
    rfl
  | false =>
    obtain ⟨ad, had, hsl⟩ : ∃ ad : Addr, (zs.drop n ≠ [] → ad = ⟨w.heap.size, 2 + n, none⟩) ∧ ∀ W, (Instr.sliceAt 67 (.pointer (some ⟨w.heap.size, 2, none⟩)) (some (.int .i64 (n : Int))) none none).run Tryd.prog W = .ok (.slice (some ad) (4 - n) (4 - n)) W := by
      refine ⟨if 4 = n then (⟨w.heap.size, 2, none⟩ : Addr) else Addr.add ⟨w.heap.size, 2, none⟩ (n * 1), fun h => ?_, fun W => ?_⟩
      · have : (zs.drop n).length ≠ 0 := fun h0 => h (List.length_eq_zero_iff.1 h0)
        rw [if_neg (by omega), Nat.mul_one, add_eq]
      · rw [run_sliceAt_array_l W 67 _ Tryd.underlying67 .i64 n g0 g4]
        rw [Go.AM.run_sizeOf (show sizeIs Tryd.prog (Tryd.prog.elem 67) 1 = true by kernel_rfl)]
        have e4 : Tryd.prog.arrayLen 67 = 4 := by kernel_rfl
        simp [slicedAt, e4, Result.andThen]
    clear g0 g4
    go_wp2_with (go_at_fn 56; fail)
    have cX3 : ∀ j, (h : j < (zs.drop n).length) → W3.cell? ⟨w.heap.size, 2 + n + j, none⟩ = some (.int .i64 (zs.drop n)[j]) := by
      intro j hj
      have := (cz W3 rw3).1 (n + j) (by omega)
      rw [show 2 + n + j = 2 + (n + j) by omega, this, List.getElem_drop]
      simp [List.getD, show n + j < zs.length by omega]
    refine (contains_calls (contains2_0 (zs.drop n) (by omega) []) W3 (vars_below hg bw3) ad w.heap.size (2 + n) (4 - n) (4 - n) hl2.symm had cX3 (Nat.le_refl _)).mono ?_
    rintro e W4 ⟨rfl, bb4⟩
    have sz4 := bb4.size
    have rw4 := (bb4.block _ (by omega)).trans rw3
    have rowG4 := (bb4.block _ (lt_of_obj ((bb3.block _ (lt_of_obj rowG)).trans rowG))).trans ((bb3.block _ (lt_of_obj rowG)).trans rowG)
    have bw4 : Below w.heap.size w W4 := bw3.trans (bb4.mono (by omega))
    cases hz : (zs.drop n).any fun b => decide (b ≠ 0) with
    | true =>
      go_wp2
      go_ret
      refine ⟨?_, bw4⟩
      rw [hn, ← hzs, rinB, Int.toNat_natCast, ho, hz]
      rfl
    | false =>
      go_wp2_with (go_at_fn 58; fail)
      obtain ⟨srt, hsrt⟩ : ∃ srt, srt = (zs.take n).mergeSort fun x y => decide (x ≤ y) := ⟨_, rfl⟩
      have hls : srt.length = n := by rw [hsrt, List.length_mergeSort, hl1]
      have hold : Go.Sort.Holds (Value.int .i64) W4 G 0 (zs.take n).toArray := by
        intro j hj
        have hj' : j < (zs.take n).length := by simpa using hj
        refine ⟨?_, by unfold World.frozen?; rw [rowG4]; simp⟩
        have := cG j hj'
        rw [cell_of_obj rowG] at this
        rw [cell_of_obj rowG4, this, getElem!_pos (zs.take n).toArray j hj]
        simp
      have sorted := Tryd.slices_Sort_int G 0 cap (zs.take n) W4 hold (lt_of_obj rowG4) (by omega)
      rw [hl1, ← hsrt] at sorted
      refine sorted.mono ?_
      rintro e W5 ⟨rfl, m, os, rfl⟩
      have bp5 : Below w.heap.size w (Go.Sort.putRow (Value.int .i64) (Go.Sort.ahead W4 m) G 0 srt.toArray) := Go.Lib.below_putRow bw4 (by omega)
      have hp5 := Go.Sort.holds_putRow (Value.int .i64) (Go.Sort.ahead W4 m) G 0 (zs.take n).toArray srt.toArray (Go.Sort.holds_ahead _ _ _ _ _ _ hold) (by simp only [List.size_toArray]; omega)
      have gr := below_grow0 (Go.Sort.putRow (Value.int .i64) (Go.Sort.ahead W4 m) G 0 srt.toArray) os
      have sp5 : (Go.Sort.putRow (Value.int .i64) (Go.Sort.ahead W4 m) G 0 srt.toArray).heap.size = W4.heap.size := by simp
      have bw5 : Below w.heap.size w (Go.Sort.grow (Go.Sort.putRow (Value.int .i64) (Go.Sort.ahead W4 m) G 0 srt.toArray) os) := bp5.trans (gr.mono (by omega))
      have hold5 : Go.Sort.Holds (Value.int .i64) (Go.Sort.grow (Go.Sort.putRow (Value.int .i64) (Go.Sort.ahead W4 m) G 0 srt.toArray) os) G 0 srt.toArray := holds_below gr hp5 (by have := lt_of_obj rowG4; omega)
      have rw5 : (Go.Sort.grow (Go.Sort.putRow (Value.int .i64) (Go.Sort.ahead W4 m) G 0 srt.toArray) os).heap[w.heap.size]? = W4.heap[w.heap.size]? := by
        rw [gr.block _ (by omega)]
        unfold Go.Sort.putRow Go.Sort.mapBlock
        simp only [Array.getElem?_modify]
        rw [if_neg (by omega)]
        rfl
      generalize Go.Sort.grow (Go.Sort.putRow (Value.int .i64) (Go.Sort.ahead W4 m) G 0 srt.toArray) os = W5 at *
      have cx5 := (cz W5 (rw5.trans rw4)).2
      have bd : Below w.heap.size w W5.drew := ⟨bw5.os, bw5.tape, bw5.output, bw5.size, bw5.block⟩
      have hdr : Go.Sort.Holds (Value.int .i64) W5.drew G 0 srt.toArray := hold5
      have cxd : W5.drew.cell? ⟨w.heap.size, 1, none⟩ = some (.int .i64 s) := cx5
      have compacted : ∀ W, Below w.heap.size w W → W.cell? ⟨w.heap.size, 1, none⟩ = some (.int .i64 s) → Go.Sort.Holds (Value.int .i64) W G 0 srt.toArray → Calls Tryd.prog 59 #[.slice (some ⟨G, 0, none⟩) n cap] W fun e w' => e = .returned (.slice (some ⟨G, 0, none⟩) (Go.Lib.compact srt).length cap) ∧ Below w.heap.size w w' ∧ w'.cell? ⟨w.heap.size, 1, none⟩ = some (.int .i64 s) := by
        intro W hb hc hh
        have := Tryd.slices_Compact_int G 0 cap srt W hh (by omega) (by omega)
        rw [hls] at this
        refine this.mono ?_
        rintro e W' ⟨rfl, q, rfl⟩
        refine ⟨rfl, Go.Lib.below_putRow hb (by omega), ?_⟩
        rw [Go.Sort.cell?_putRow_other _ _ _ _ _ _ (.inl (by show w.heap.size ≠ G; omega))]
        exact hc
      go_wp2_with fail
      go_region_held (fun w' => w'.cell? ⟨w.heap.size, 1, none⟩ = some (.int .i64 s) ∧ Below w.heap.size w w') (first | exact ⟨by assumption, by assumption⟩ | go_keep)
        (first
          | (go_at_call 59; refine (compacted _ (by assumption) (by assumption) hdr).mono ?_; rintro e W7 ⟨rfl, bw7, cx7⟩)
          | (go_at_call 54; refine (need_calls s h0 h1 _).mono ?_; rintro e W8 ⟨rfl, rfl⟩))
      go_wp2
      go_ret
      refine ⟨?_, by assumption⟩
      rw [hn, ← hzs, rinB, Int.toNat_natCast, ho, hz]
      show Ending.returned (.bool (((Go.Lib.compact ((zs.take n).mergeSort fun x y => decide (x ≤ y))).length : Int) == (n : Int))) = _
      have hcn := compact_nodup (zs.take n)
      rw [hl1] at hcn
      congr 2
      by_cases hd : (zs.take n).Nodup
      · rw [decide_eq_true hd, hcn.2 hd]; simp
      · rw [decide_eq_false hd]
        have : (Go.Lib.compact ((zs.take n).mergeSort fun x y => decide (x ≤ y))).length ≠ n := fun h => hd (hcn.1 h)
        simp
        omega
theorem free_calls {k s a b c d : Int} {r : Bool} (hev : eval tbl (fun _ => none) n_layout_RightInode [.agg [iw k, iw s, iw a, iw b, iw c, iw d]] [] = some (.bool r, [])) (W : World) (hg : VarsOK (globs Tryd.prog) (tabs Tryd.prog) W) :
    Calls Tryd.prog 51 #[.agg #[.int .i64 k, .int .i64 s, .int .i64 a, .int .i64 b, .int .i64 c, .int .i64 d]] W fun e w' => e = .returned (.bool r) ∧ Below W.heap.size W w' := by
  obtain ⟨m, hm⟩ := (eval_iff ..).1 hev
  refine (fn_calls fits fitsW (fun _ _ _ h => by cases h) lt_layout_RightInode hm W hg _ rfl ?_).mono ?_
  · intro j v x hv hx
    rcases j with _ | j
    · simp at hv hx; subst hv; subst hx
      refine .agg _ _ rfl fun j v x h1 h2 => ?_
      have h3 : x = match v with | .int q n => .int q n | _ => x := by
        match j, h1, h2 with
        | 0, h1, h2 => simp at h1 h2; subst h1; subst h2; rfl
        | 1, h1, h2 => simp at h1 h2; subst h1; subst h2; rfl
        | 2, h1, h2 => simp at h1 h2; subst h1; subst h2; rfl
        | 3, h1, h2 => simp at h1 h2; subst h1; subst h2; rfl
        | 4, h1, h2 => simp at h1 h2; subst h1; subst h2; rfl
        | 5, h1, h2 => simp at h1 h2; subst h1; subst h2; rfl
        | j + 6, h1, h2 => simp at h1
      have hv : ∃ n, v = iw n := by
        match j, h1 with
        | 0, h1 => simp at h1; exact ⟨_, h1.symm⟩
        | 1, h1 => simp at h1; exact ⟨_, h1.symm⟩
        | 2, h1 => simp at h1; exact ⟨_, h1.symm⟩
        | 3, h1 => simp at h1; exact ⟨_, h1.symm⟩
        | 4, h1 => simp at h1; exact ⟨_, h1.symm⟩
        | 5, h1 => simp at h1; exact ⟨_, h1.symm⟩
        | j + 6, h1 => simp at h1
      obtain ⟨n, rfl⟩ := hv
      rw [h3]
      exact .pr (.int _ _)
    · simp at hv
  · rintro e w' ⟨x, rfl, ⟨F, ι, tl, hR⟩, hb⟩
    have := ((RL_other (by simp)).1 hR).1.bool_inv
    subst this
    exact ⟨rfl, hb⟩

theorem all_calls (k s a b c d : Int) (W : World) (hg : VarsOK (globs Tryd.prog) (tabs Tryd.prog) W) :
    Calls Tryd.prog 51 #[.agg #[.int .i64 k, .int .i64 s, .int .i64 a, .int .i64 b, .int .i64 c, .int .i64 d]] W fun e w' => e = .returned (.bool (inoOK k s a b c d)) ∧ Below W.heap.size W w' := by
  unfold inoOK
  by_cases h : k = 0 ∨ k = 2
  · rw [if_pos h]
    exact free_calls (rin_free0 k s a b c d h) W hg
  · rw [if_neg h]
    by_cases h1 : k = 1
    · subst h1
      rw [if_pos rfl]
      by_cases hs : s < 0 ∨ 128 < s
      · rw [if_pos hs]
        exact free_calls (rin_size0 s a b c d hs) W hg
      · rw [if_neg hs]
        exact rin_calls s a b c d (by omega) (by omega) W hg
    · rw [if_neg h1]
      exact free_calls (rin_odd0 k s a b c d (fun e => h (.inl e)) (fun e => h (.inr e)) h1) W hg

end Go.Proofs.YtfmbdcpdoffdeabDoor.rin
