/-
  Directories: entries' sectors, in the program.
-/
import Derived.Test.YtfmpfhfeokemcaaDoorLayB
namespace Go.AM.Spec
set_option linter.unusedVariables false
set_option linter.unusedSimpArgs false
set_option maxHeartbeats 4000000
set_option maxRecDepth 20000

/-- What Entry answers. -/
def En.out (x : En) : List V := if x.right = true then x.sec else zeroSec

theorem right_used {x : En} (h : x.right = true) (hu : x.used = true) : 0 ≤ x.parent ∧ x.parent < 16 ∧ 1 ≤ x.target ∧ x.target < 16 ∧ x.name.length ≤ 8 := by
  unfold En.right at h
  rw [if_pos hu] at h
  simp only [Bool.and_eq_true, decide_eq_true_eq] at h
  have hn := h.2.2
  unfold nameOK at hn
  simp only [Bool.and_eq_true, decide_eq_true_eq] at hn
  exact ⟨h.1.1, h.1.2, h.2.1.1, h.2.1.2, hn.2.1⟩

theorem byrows_flat (s : List UInt8) : (bytesRows s).flatten = bys s := by
  unfold bytesRows bys
  induction s with
  | nil => rfl
  | cons c s ih => simp only [List.map_cons, List.flatten_cons, ih]; rfl
theorem byrows_take (s : List UInt8) (h : s.length ≤ 16) : ((bytesRows s).take (min s.length 16)).flatten = bys s := by
  rw [List.take_of_length_le (by simp [bytesRows]; omega), byrows_flat]
theorem byrows_plain (s : List UInt8) (n : Nat) : (((bytesRows s).take n).all fun r => r.all V.plain) = true := by
  rw [List.all_eq_true]
  intro r hr
  have := List.mem_of_mem_take hr
  unfold bytesRows at this
  obtain ⟨c, _, rfl⟩ := List.mem_map.1 this
  rfl

theorem sec_many_lit (p t m : Int) (s : List UInt8) (h : s.length ≤ 16) : setMany [u8 1, u8 p, u8 t, u8 m, u8 0, u8 0, u8 0, u8 0, u8 0, u8 0, u8 0, u8 0, u8 0, u8 0, u8 0, u8 0, u8 0, u8 0, u8 0, u8 0, u8 0, u8 0, u8 0, u8 0, u8 0, u8 0, u8 0, u8 0, u8 0, u8 0, u8 0, u8 0] 16 (bys s) = secAt 1 p t m s s.length := sec_many 1 p t m s h

theorem Entry_eq (x : En) (hx : x.name.length ≤ 1000) (H : Heap) : eval tbl noExt n_layout_Entry [.agg x.cells] H = some (.tup [.agg x.out, .bool x.right], H) := by
  have hR := RightEntry_eq x hx []
  rw [eval_M rfl rfl t_layout_Entry rfl]
  unfold En.out
  cases hr : x.right with
  | false =>
    rw [hr] at hR
    simp only [En.cells] at hR ⊢
    simp [c_layout_Entry, hR, zeroSec, List.replicate]
  | true =>
    rw [hr] at hR
    cases hu : x.used with
    | false =>
      have hs : x.sec = zeroSec := by unfold En.sec; rw [if_neg (by simp [hu])]
      rw [if_pos rfl, hs]
      simp only [En.cells, hu] at hR ⊢
      simp [c_layout_Entry, hR, zeroSec, List.replicate]
    | true =>
      obtain ⟨r1, r2, r3, r4, r5⟩ := right_used hr hu
      have hs : x.sec = secAt 1 x.parent x.target x.name.length x.name x.name.length := by unfold En.sec; rw [if_pos hu]
      have e1 : IntKind.u8.wrap x.parent = x.parent := by rw [IntKind.wrap_u8]; omega
      have e2 : IntKind.u8.wrap x.target = x.target := by rw [IntKind.wrap_u8]; omega
      have e3 : IntKind.u8.wrap (x.name.length : Int) = x.name.length := by rw [IntKind.wrap_u8]; omega
      have e4 := byrows_take x.name (by omega)
      have e5 := fun n => byrows_plain x.name n
      have e6 := sec_many_lit x.parent x.target x.name.length x.name (by omega)
      have e7 : (bytesRows x.name).length = x.name.length := by simp [bytesRows]
      rw [if_pos rfl, hs]
      simp only [En.cells, hu] at hR ⊢
      have ok := secAt_ok 1 x.parent x.target x.name.length x.name (Nat.le_refl _) (show x.name.length ≤ 16 by omega)
      simp [c_layout_Entry, hR, e1, e2, e3, e4, e5, e6, e7, ok.len, ok.take, ok.strip, ok.one, ok.under, h32 ok]

end Go.AM.Spec
