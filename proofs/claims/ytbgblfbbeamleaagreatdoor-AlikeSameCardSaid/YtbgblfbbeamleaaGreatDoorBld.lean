/-
  Builders of texts: what their methods do, walked by hand: a byte is written, a text is written, the text is read.
-/
import Derived.Test.YtbgblfbbeamleaaGreatDoorBlx
import Derived.Test.YtbgblfbbeamleaaGreatDoorCheck
import Derived.WalkKit
import Derived.Shelf.Abstract
import Derived.Lib.FrozenHead
namespace Go.Proofs.YtbgblfbbeamleaaGreatDoor.bld
open Go.AM Go.RowKit
set_option linter.unusedVariables false
set_option linter.unusedSimpArgs false
set_option maxHeartbeats 1000000
set_option maxRecDepth 100000

theorem sizeB : (Tryz.prog.info? 232).map (·.size) = some 2 := by kernel_rfl
/-- The types of the blocks that hold a builder at their beginning. -/
def Bt (T : Nat) : Prop := T = Go.AM.bT ∨ T = Go.AM.bP
theorem liesB {T : Nat} (h : Bt T) : liesAt Tryz.prog Tryz.prog.depth T (2 / Tryz.prog.cellsOf T) 0 232 1 = true := by
  rcases h with rfl | rfl <;> kernel_rfl
theorem cellsU : Tryz.prog.cellsOf 5 = 1 := by kernel_rfl
abbrev bE : Nat := 5

/-- A builder that was written to: its mark is its own address. -/
theorem check_used (b : Nat) (w : World) (h0 : w.cell? ⟨b, 0, none⟩ = some (.pointer (some ⟨b, 0, none⟩))) :
    Calls Tryz.prog 248 #[.pointer (some ⟨b, 0, none⟩)] w fun e w' => e = .returned (.tuple #[]) ∧ w' = w := by
  obtain ⟨j, hj, _⟩ := Option.map_eq_some_iff.1 sizeB
  go_enter Tryz.func248, Tryz.ntmps248
  go_wp2
  rw [Lib.run_neq_ptr_same w _ Tryz.underlying230 hj]
  go_wp2
  go_end0
  exact ⟨rfl, rfl⟩

theorem check_fresh {T : Nat} (hT : Bt T) (b : Nat) (w : World) (h0 : w.cell? ⟨b, 0, none⟩ = some (.pointer none)) (hsh : w.shape? b = some (T, 2)) (hfz : w.frozen? ⟨b, 0, none⟩ = false) :
    Calls Tryz.prog 248 #[.pointer (some ⟨b, 0, none⟩)] w fun e w' => e = .returned (.tuple #[]) ∧ w' = w.setCell ⟨b, 0, none⟩ (.pointer (some ⟨b, 0, none⟩)) := by
  obtain ⟨j, hj, hjs⟩ := Option.map_eq_some_iff.1 sizeB
  go_enter Tryz.func248, Tryz.ntmps248
  go_wp2
  rw [Lib.run_to_unsafe w ⟨b, 0, none⟩ Tryz.underlying230 Tryz.underlying418 hj (by rw [hjs]; decide) hsh (Nat.zero_lt_succ 1)]
  simp only [Result.andThen]
  rw [Oper.upon_value]
  go_wp2
  rw [run_callFunc_extern Tryz.func308 (by kernel_rfl) (by kernel_rfl) (by kernel_rfl) (e := Extern.AbiNoEscape.same) (by kernel_rfl)]
  rw [Lib.run_noEscape]
  simp only [Result.andThen]
  rw [Oper.upon_value]
  go_wp2
  rw [Lib.run_from_unsafe w ⟨b, 0, none⟩ Tryz.underlying418 Tryz.underlying230 hj hsh (liesB hT)]
  simp only [Result.andThen]
  rw [Oper.upon_value]
  go_wp2
  go_end0
  exact ⟨rfl, rfl⟩

/-- What 'copyCheck' leaves. -/
structure Chkd (T l : Nat) (v : Value) (w w1 : World) : Prop where
  row : w1.heap[l]? = some (.cells #[.pointer (some ⟨l, 0, none⟩), v] T (0, 0))
  os : w1.os = w.os
  tape : w1.tape = w.tape
  output : w1.output = w.output
  size : w1.heap.size = w.heap.size
  other : ∀ k, k ≠ l → w1.heap[k]? = w.heap[k]?

theorem check {T : Nat} (hT : Bt T) {l : Nat} {w : World} {p v : Value} (hrow : w.heap[l]? = some (.cells #[p, v] T (0, 0))) (hp : p = .pointer none ∨ p = .pointer (some ⟨l, 0, none⟩)) :
    Calls Tryz.prog 248 #[.pointer (some ⟨l, 0, none⟩)] w fun e w' => e = .returned (.tuple #[]) ∧ Chkd T l v w w' := by
  rcases hp with rfl | rfl
  · refine (check_fresh hT l w (by rw [cell_of_obj hrow]; rfl) (by simp [World.shape?, hrow]) (by simp [World.frozen?, hrow])).mono ?_
    rintro e w' ⟨rfl, rfl⟩
    refine ⟨rfl, ?_, rfl, rfl, rfl, by simp [World.setCell], fun k hk => Below.heap_setCell _ _ _ _ (fun e => hk e)⟩
    simp [World.setCell, Array.getElem?_modify, hrow]
  · refine (check_used l w (by rw [cell_of_obj hrow]; rfl)).mono ?_
    rintro e w' ⟨rfl, rfl⟩
    exact ⟨rfl, hrow, rfl, rfl, rfl, rfl, fun _ _ => rfl⟩

theorem Chkd.buf {T l : Nat} {v : Value} {w w1 : World} (h : Chkd T l v w w1) {bs : List UInt8} {tl : Option (Nat × Nat)} (hb : BufIs bE w v bs tl) (hne : ∀ n, tl ≠ some (l, n)) : BufIs bE w1 v bs tl := by
  rcases hb with hb | ⟨r0, g, cap, cur, r1, r2, r3, r4⟩
  · exact .inl hb
  · exact .inr ⟨r0, g, cap, cur, r1, r2, by rw [h.other g (by rintro rfl; exact hne 0 r2)]; exact r3, r4⟩

/-- The end of a writing method: the bytes' new slice is stored. -/
theorem wrt_end {T l : Nat} {v v' : Value} {bs' : List UInt8} {tl tl' : Option (Nat × Nat)} {w w1 w2 : World} {n1 : Nat} (hc : Chkd T l v w w1) (hne : ∀ n, tl ≠ some (l, n)) (hlw : l < w.heap.size) (w1' : World) (hs1 : w1.heap.size ≤ w1'.heap.size)
    (ho1 : w1'.os = w1.os) (ht1 : w1'.tape = w1.tape) (hu1 : w1'.output = w1.output) (hold1 : ∀ k, k < w1.heap.size → w1'.heap[k]? = w1.heap[k]?) (hg : Grew bE bs' tl tl' v' w1' w2) (htl : ∀ g n, tl = some (g, n) → g < w.heap.size) :
    Wrt l T bE bs' tl w (w2.setCell ⟨l, 1, none⟩ v') := by
  have hsz := hc.size
  have hnew : ∀ g n, tl' = some (g, n) → g ≠ l := by
    rintro g n h rfl
    rcases hg.new _ _ h with h1 | ⟨h1, _⟩
    · exact hne _ h1
    · omega
  have hrow2 : w2.heap[l]? = some (.cells #[.pointer (some ⟨l, 0, none⟩), v] T (0, 0)) := by
    rw [hg.other l (by omega) hne, hold1 l (by omega)]; exact hc.row
  have hset : ∀ k, k ≠ l → (w2.setCell ⟨l, 1, none⟩ v').heap[k]? = w2.heap[k]? := fun k hk => Below.heap_setCell _ _ _ _ (fun e => hk e)
  refine ⟨hg.os.trans (ho1.trans hc.os), hg.tape.trans (ht1.trans hc.tape), hg.output.trans (hu1.trans hc.output), ?_, fun k hk hkl hkn => ?_, fun g n h => ?_, v', tl', ?_, ?_, fun g n h => ?_⟩
  · have := hg.size
    simp [World.setCell]; omega
  · rw [hset k hkl, hg.other k (by omega) hkn, hold1 k (by omega), hc.other k hkl]
  · have hgl : g ≠ l := by rintro rfl; exact hne n h
    obtain ⟨cur, cur', h1, h2, h3⟩ := hg.row g n h
    refine ⟨cur, cur', ?_, ?_, h3⟩
    · rw [← hc.other g hgl, ← hold1 g (by rw [hsz]; exact htl g n h)]; exact h1
    · rw [hset g hgl]; exact h2
  · simp [World.setCell, Array.getElem?_modify, hrow2]
  · exact hg.buf.setCell _ _ (fun n h => hnew _ _ h rfl)
  · rcases hg.new g n h with h1 | ⟨h1, h2⟩
    · exact .inl h1
    · right
      simp [World.setCell]
      omega

theorem tl_lt {w : World} {v : Value} {bs : List UInt8} {tl : Option (Nat × Nat)} (h : BufIs bE w v bs tl) : ∀ g n, tl = some (g, n) → g < w.heap.size := by
  intro g n hg
  rcases h with ⟨_, _, h⟩ | ⟨_, g', cap, cur, _, h, h3, _⟩
  · rw [h] at hg; cases hg
  · rw [h] at hg; cases hg; exact lt_of_obj h3

theorem buf_slice {w : World} {v : Value} {bs : List UInt8} {tl : Option (Nat × Nat)} (h : BufIs bE w v bs tl) : ∃ ad n cap, v = .slice ad n cap := by
  rcases h with ⟨_, h, _⟩ | ⟨_, g', cap, cur, h, _⟩
  · exact ⟨_, _, _, h⟩
  · exact ⟨_, _, _, h⟩

theorem chkText : chkApp Tryz.prog #[162, 9] 1 1 = true := by kernel_rfl

/-- The text is read. -/
theorem show_ok (T : Nat) (bs : List UInt8) : ShwOK Tryz.prog 129 T bE bs := by
  intro l w p v tl hrow hbuf hne
  have hdrew : w.drew.heap = w.heap := rfl
  rcases hbuf with ⟨rfl, rfl, rfl⟩ | ⟨h0, g, cap, cur, rfl, rfl, hg, hc1, hc2, hcs, hcell⟩
  · have c1 : w.drew.cell? ⟨l, 1, none⟩ = some (.slice none 0 0) := by
      have : w.drew.heap[l]? = some (.cells #[p, .slice none 0 0] T (0, 0)) := hrow
      rw [cell_of_obj this]; rfl
    have hUS := Lib.run_unsafeString_none (P := Tryz.prog) w.drew 293 3 9 none
    have hSD : (Builtin.unsafeSliceData_ #[162] 293 #[.slice none 0 0]).run Tryz.prog w.drew = .ok (.pointer none) w.drew := rfl
    go_enter Tryz.func129, Tryz.ntmps129
    go_wp2
    go_region
    all_goals (go_wp2; go_ret; exact ⟨rfl, rfl, rfl, rfl, Nat.le_refl _, fun _ _ _ => rfl, fun _ _ h => (by cases h)⟩)
  · have c1 : w.drew.cell? ⟨l, 1, none⟩ = some (.slice (some ⟨g, 0, none⟩) bs.length cap) := by
      have : w.drew.heap[l]? = some (.cells #[p, .slice (some ⟨g, 0, none⟩) bs.length cap] T (0, 0)) := hrow
      rw [cell_of_obj this]; rfl
    have hgd : w.drew.heap[g]? = some (.cells cur bE (0, 0)) := hg
    have hl0 : bs.length ≠ 0 := by simpa using h0
    have hSD : (Builtin.unsafeSliceData_ #[162] 293 #[.slice (some ⟨g, 0, none⟩) bs.length cap]).run Tryz.prog w.drew = .ok (.pointer (some ⟨g, 0, none⟩)) w.drew :=
      Lib.run_unsafeSliceData_row _ _ _ _ _ _ (by omega)
    have hUS : (Builtin.unsafeString_ #[293, 3] 9 #[.pointer (some ⟨g, 0, none⟩), .int .i64 bs.length]).run Tryz.prog w.drew = .ok (.string ⟨bs.toArray⟩) (w.drew.freeze ⟨g, 0, none⟩ bs.length) := by
      refine Lib.run_unsafeString_row w.drew 293 3 9 bE Tryz.underlying293 cellsU g cur.size (by simp [World.shape?, hgd]) bs h0 (by omega) (by unfold maxLen at hc2; omega) ?_
      intro j x hx
      rw [add_eq, cell_of_obj hgd, Nat.zero_add]
      exact hcell j x hx
    have hF : Shw l (some (g, 0)) w (w.drew.freeze ⟨g, 0, none⟩ bs.length) := by
      unfold World.freeze
      rw [if_neg hl0]
      refine ⟨rfl, rfl, rfl, by simp, fun k hk hn => ?_, fun g' n h => ?_⟩
      · simp only [Array.getElem?_modify]
        rw [if_neg (fun e => hn 0 (by rw [e]))]
        rfl
      · cases h
        refine ⟨cur, bE, (0, 0 + bs.length), hg, ?_⟩
        simp only [Array.getElem?_modify, if_true]
        rw [hgd]
        rfl
    go_enter Tryz.func129, Tryz.ntmps129
    go_wp2
    go_region
    all_goals (go_wp2; go_ret; exact ⟨rfl, hF⟩)

end Go.Proofs.YtbgblfbbeamleaaGreatDoor.bld
