/-
  Builders of texts: a text is written, walked by hand.
-/
import Derived.Test.YtbgblfbbeamleaaGreatDoorBld
namespace Go.Proofs.YtbgblfbbeamleaaGreatDoor.bls
open Go.AM Go.RowKit Go.Proofs.YtbgblfbbeamleaaGreatDoor.bld
set_option linter.unusedVariables false
set_option linter.unusedSimpArgs false
set_option maxHeartbeats 1000000
set_option maxRecDepth 100000

theorem text_src (s : List UInt8) (w : World) : (Builtin.lenOf (.string ⟨s.toArray⟩)).run Tryz.prog w = .ok s.length w ∧ (Builtin.firstCells 1 s.length (.string ⟨s.toArray⟩)).run Tryz.prog w = .ok (cellsOfBytes s).toArray w := by
  obtain ⟨h1, _, h3⟩ := Src.str (P := Tryz.prog) (w := w) (F := fun _ _ => False) (ι := []) s
  have hl : (bytesRows s).length = s.length := by simp [bytesRows]
  obtain ⟨ys, h4, h5⟩ := h3 s.length (by rw [hl]; exact Nat.le_refl _)
  rw [List.take_of_length_le (by rw [hl]; exact Nat.le_refl _)] at h5
  rw [cells_bytes h5] at h4
  rw [hl] at h1
  exact ⟨h1, h4⟩

/-- A text is written. -/
theorem writeS {T : Nat} (hT : Bt T) (bs s : List UInt8) (hlen : bs.length + s.length ≤ 2 ^ 46) : WrtOK Tryz.prog 180 T bld.bE [.string ⟨s.toArray⟩] (.tup [.int .i64 s.length, .undef]) bs (bs ++ s) := by
  intro l w p v tl hrow hp hbuf hne
  show Calls Tryz.prog 180 #[.pointer (some ⟨l, 0, none⟩), .string ⟨s.toArray⟩] w _
  go_enter Tryz.func180, Tryz.ntmps180
  go_wp2_with (go_at_fn 248; fail)
  refine (check hT hrow hp).mono ?_
  rintro e w1 ⟨rfl, h1⟩
  have hb1 := h1.buf hbuf hne
  have c0 : w1.cell? ⟨l, 0, none⟩ = some (.pointer (some ⟨l, 0, none⟩)) := by rw [cell_of_obj h1.row]; rfl
  have c1 : w1.cell? ⟨l, 1, none⟩ = some v := by rw [cell_of_obj h1.row]; rfl
  go_wp2_with (at_builtin; refine wl_app (P := Tryz.prog) rfl rfl chkText rfl Tryz.underlying162 (v := v) (x := .string ⟨s.toArray⟩) (bs := bs) (new := s) rfl rfl hb1 ?d1 ?d2 ?d3 hlen ?_)
  case d1 => exact (text_src s w1).1
  case d2 => exact (text_src s w1).2
  case d3 => exact (text_src s w1.drew).2
  intro v' w2 tl' hg
  obtain ⟨ad, n, cap, rfl⟩ := buf_slice hg.buf
  have hrow2 : w2.heap[l]? = some (.cells #[.pointer (some ⟨l, 0, none⟩), v] T (0, 0)) := by
    rw [hg.other l (lt_of_obj h1.row) hne]; exact h1.row
  have d0 : w2.cell? ⟨l, 0, none⟩ = some (.pointer (some ⟨l, 0, none⟩)) := by rw [cell_of_obj hrow2]; rfl
  have d1 : w2.cell? ⟨l, 1, none⟩ = some v := by rw [cell_of_obj hrow2]; rfl
  have f1 : w2.frozen? ⟨l, 1, none⟩ = false := by simp [World.frozen?, hrow2]
  go_wp2
  go_ret2
  refine ⟨_, rfl, fun w F ι => ?_, wrt_end (n1 := 0) h1 hne (lt_of_obj hrow) w1 (Nat.le_refl _) rfl rfl rfl (fun _ _ => rfl) hg (tl_lt hbuf)⟩
  refine R.tup _ _ rfl (fun j v x hv hx => ?_)
  match j with
  | 0 => simp at hv hx; subst hv; subst hx; exact .pr (.int _ _)
  | 1 => simp at hv hx; subst hv; subst hx; exact .undef _
  | j + 2 => simp at hv

end Go.Proofs.YtbgblfbbeamleaaGreatDoor.bls
