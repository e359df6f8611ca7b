/-
  Inodes: their sectors, in the program.
-/
import Derived.Test.YtfmpfhfeokemcaaDoorLayB
namespace Go.AM.Spec
set_option linter.unusedVariables false
set_option linter.unusedSimpArgs false
set_option maxHeartbeats 4000000
set_option maxRecDepth 20000

theorem RightInode_eq (k s a b c d : Int) (H : Heap) : eval tbl noExt n_layout_RightInode [.agg [iw k, iw s, iw a, iw b, iw c, iw d]] H = some (.bool (inoOK k s a b c d), H) := by
  rw [eval_X (e := xRightInode) rfl rfl]; rfl

/-- What an inode's sector holds. -/
def inoL (k s a b c d : Int) : List Int := [k, s, a, b, c, d] ++ List.replicate 26 0
def inoOut (k s a b c d : Int) : List Int := if inoOK k s a b c d = true then inoL k s a b c d else List.replicate 32 0

theorem inoOut_len (k s a b c d : Int) : (inoOut k s a b c d).length = 32 := by unfold inoOut; split <;> rfl

theorem odd_bound {b : Int} (h : odd24 b = false) : 0 ≤ b ∧ b ≤ 24 := by
  unfold odd24 at h
  simp at h
  omega

theorem ino_bounds {k s a b c d : Int} (h : inoOK k s a b c d = true) : (0 ≤ k ∧ k ≤ 2) ∧ (0 ≤ s ∧ s ≤ 128) ∧ (0 ≤ a ∧ a ≤ 24) ∧ (0 ≤ b ∧ b ≤ 24) ∧ (0 ≤ c ∧ c ≤ 24) ∧ (0 ≤ d ∧ d ≤ 24) := by
  unfold inoOK at h
  split at h
  · rename_i hk
    simp at h
    omega
  · split at h
    · rename_i hk
      split at h
      · cases h
      · rename_i hs
        obtain ⟨n, hn⟩ : ∃ n, n = ((s + 31) / 32).toNat := ⟨_, rfl⟩
        rw [← hn] at h
        unfold rinB at h
        simp only [Bool.and_eq_true, Bool.not_eq_true', decide_eq_true_eq] at h
        obtain ⟨⟨h1, h2⟩, _⟩ := h
        have key : ∀ x ∈ [a, b, c, d], 0 ≤ x ∧ x ≤ 24 := by
          intro x hx
          rw [← List.take_append_drop n [a, b, c, d], List.mem_append] at hx
          rcases hx with hx | hx
          · exact odd_bound (by simpa using List.any_eq_false.1 h1 x hx)
          · have := List.any_eq_false.1 h2 x hx
            simp at this
            omega
        simp only [List.mem_cons, List.not_mem_nil, or_false, forall_eq_or_imp, forall_eq] at key
        refine ⟨by omega, by omega, key.1, key.2.1, key.2.2.1, key.2.2.2⟩
    · cases h

theorem wu8 {n : Int} (h0 : 0 ≤ n) (h1 : n ≤ 255) : IntKind.u8.wrap n = n := by rw [IntKind.wrap_u8]; omega

theorem Inode_eq (k s a b c d : Int) (H : Heap) : eval tbl noExt n_layout_Inode [.agg [iw k, iw s, iw a, iw b, iw c, iw d]] H = some (.tup [.agg (secOf (inoOut k s a b c d)), .bool (inoOK k s a b c d)], H) := by
  have hR := RightInode_eq k s a b c d []
  rw [eval_M rfl rfl t_layout_Inode rfl]
  unfold inoOut
  cases hr : inoOK k s a b c d with
  | false =>
    rw [hr] at hR
    simp [c_layout_Inode, hR, secOf, List.replicate]
  | true =>
    rw [hr] at hR
    obtain ⟨bk, bs, ba, bb, bc, bd⟩ := ino_bounds hr
    have ek := wu8 bk.1 (by omega)
    have es := wu8 bs.1 (by omega)
    have ea := wu8 ba.1 (by omega)
    have eb := wu8 bb.1 (by omega)
    have ec := wu8 bc.1 (by omega)
    have ed := wu8 bd.1 (by omega)
    have v1 : IntKind.i64.wrap 1 = 1 := rfl
    have v2 : IntKind.i64.wrap 2 = 2 := rfl
    have v3 : IntKind.i64.wrap 3 = 3 := rfl
    have v4 : IntKind.i64.wrap 4 = 4 := rfl
    have v5 : IntKind.i64.wrap 5 = 5 := rfl
    simp [c_layout_Inode, hR, ek, es, V.apart, storeOf]
    rw [l_layout_Inode_0, M_loop, ← l_layout_Inode_0]
    simp [b_layout_Inode_0, v1, v2, ea]
    rw [l_layout_Inode_0, M_loop, ← l_layout_Inode_0]
    simp [b_layout_Inode_0, v2, v3, eb]
    rw [l_layout_Inode_0, M_loop, ← l_layout_Inode_0]
    simp [b_layout_Inode_0, v3, v4, ec]
    rw [l_layout_Inode_0, M_loop, ← l_layout_Inode_0]
    simp [b_layout_Inode_0, v4, v5, ed]
    rw [l_layout_Inode_0, M_loop, ← l_layout_Inode_0]
    simp [b_layout_Inode_0, r_layout_Inode_0]
    rfl

end Go.AM.Spec
