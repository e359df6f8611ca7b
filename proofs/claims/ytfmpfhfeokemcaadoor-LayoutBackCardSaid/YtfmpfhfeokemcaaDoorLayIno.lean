/-
  The parts of this proof that speak of the functions one by one.
-/
import Derived.Test.YtfmpfhfeokemcaaDoorLayB
import Derived.Test.YtfmpfhfeokemcaaDoorLayEnt
namespace Go.AM.Spec
set_option linter.unusedVariables false
set_option linter.unusedSimpArgs false
set_option maxHeartbeats 4000000
set_option maxRecDepth 20000

theorem RightInode_eq (k s a b c d : Int) (H : Heap) : eval tbl noExt n_layout_RightInode [.agg [iw k, iw s, iw a, iw b, iw c, iw d]] H = some (.bool (inoOK k s a b c d), H) := by
  rw [eval_X (e := xRightInode) rfl rfl]; rfl

/-- What an inode's sector holds. -/
def inoL (k s a b c d : Int) : List Int := [k, s, a, b, c, d] ++ List.replicate 26 0
def inoOut (k s a b c d : Int) : List Int := if inoOK k s a b c d = true then inoL k s a b c d else List.replicate 32 0

theorem inoOut_len (k s a b c d : Int) : (inoOut k s a b c d).length = 32 := by unfold inoOut; split <;> rfl

theorem odd_bound {b : Int} (h : odd24 b = false) : 0 ≤ b ∧ b ≤ 24 := by
  unfold odd24 at h
  simp at h
  omega

theorem ino_bounds {k s a b c d : Int} (h : inoOK k s a b c d = true) : (0 ≤ k ∧ k ≤ 2) ∧ (0 ≤ s ∧ s ≤ 128) ∧ (0 ≤ a ∧ a ≤ 24) ∧ (0 ≤ b ∧ b ≤ 24) ∧ (0 ≤ c ∧ c ≤ 24) ∧ (0 ≤ d ∧ d ≤ 24) := by
  unfold inoOK at h
  split at h
  · rename_i hk
    simp at h
    omega
  · split at h
    · rename_i hk
      split at h
      · cases h
      · rename_i hs
        obtain ⟨n, hn⟩ : ∃ n, n = ((s + 31) / 32).toNat := ⟨_, rfl⟩
        rw [← hn] at h
        unfold rinB at h
        simp only [Bool.and_eq_true, Bool.not_eq_true', decide_eq_true_eq] at h
        obtain ⟨⟨h1, h2⟩, _⟩ := h
        have key : ∀ x ∈ [a, b, c, d], 0 ≤ x ∧ x ≤ 24 := by
          intro x hx
          rw [← List.take_append_drop n [a, b, c, d], List.mem_append] at hx
          rcases hx with hx | hx
          · exact odd_bound (by simpa using List.any_eq_false.1 h1 x hx)
          · have := List.any_eq_false.1 h2 x hx
            simp at this
            omega
        simp only [List.mem_cons, List.not_mem_nil, or_false, forall_eq_or_imp, forall_eq] at key
        refine ⟨by omega, by omega, key.1, key.2.1, key.2.2.1, key.2.2.2⟩
    · cases h

theorem wu8 {n : Int} (h0 : 0 ≤ n) (h1 : n ≤ 255) : IntKind.u8.wrap n = n := by rw [IntKind.wrap_u8]; omega

theorem Inode_eq (k s a b c d : Int) (H : Heap) : eval tbl noExt n_layout_Inode [.agg [iw k, iw s, iw a, iw b, iw c, iw d]] H = some (.tup [.agg (secOf (inoOut k s a b c d)), .bool (inoOK k s a b c d)], H) := by
  have hR := RightInode_eq k s a b c d []
  rw [eval_M rfl rfl t_layout_Inode rfl]
  unfold inoOut
  cases hr : inoOK k s a b c d with
  | false =>
    rw [hr] at hR
    simp [c_layout_Inode, hR, secOf, List.replicate]
  | true =>
    rw [hr] at hR
    obtain ⟨bk, bs, ba, bb, bc, bd⟩ := ino_bounds hr
    have ek := wu8 bk.1 (by omega)
    have es := wu8 bs.1 (by omega)
    have ea := wu8 ba.1 (by omega)
    have eb := wu8 bb.1 (by omega)
    have ec := wu8 bc.1 (by omega)
    have ed := wu8 bd.1 (by omega)
    have v1 : IntKind.i64.wrap 1 = 1 := rfl
    have v2 : IntKind.i64.wrap 2 = 2 := rfl
    have v3 : IntKind.i64.wrap 3 = 3 := rfl
    have v4 : IntKind.i64.wrap 4 = 4 := rfl
    have v5 : IntKind.i64.wrap 5 = 5 := rfl
    simp [c_layout_Inode, hR, ek, es, V.apart, storeOf]
    rw [l_layout_Inode_0, M_loop, ← l_layout_Inode_0]
    simp [b_layout_Inode_0, v1, v2, ea]
    rw [l_layout_Inode_0, M_loop, ← l_layout_Inode_0]
    simp [b_layout_Inode_0, v2, v3, eb]
    rw [l_layout_Inode_0, M_loop, ← l_layout_Inode_0]
    simp [b_layout_Inode_0, v3, v4, ec]
    rw [l_layout_Inode_0, M_loop, ← l_layout_Inode_0]
    simp [b_layout_Inode_0, v4, v5, ed]
    rw [l_layout_Inode_0, M_loop, ← l_layout_Inode_0]
    simp [b_layout_Inode_0, r_layout_Inode_0]
    rfl

end Go.AM.Spec

namespace Go.AM.Spec
set_option linter.unusedVariables false
set_option linter.unusedSimpArgs false
set_option maxHeartbeats 4000000
set_option maxRecDepth 20000

theorem Need_eq (s : Int) (h0 : 0 ≤ s) (h1 : s ≤ 128) (H : Heap) : eval tbl noExt n_flotsamref07_Need [iw s] H = some (iw ((s + 31) / 32), H) := by
  have v32 : IntKind.i64.wrap 32 = 32 := rfl
  have v64 : IntKind.i64.wrap 64 = 64 := rfl
  have v96 : IntKind.i64.wrap 96 = 96 := rfl
  have v128 : IntKind.i64.wrap 128 = 128 := rfl
  have v0 : IntKind.i64.wrap 0 = 0 := rfl
  have v1 : IntKind.i64.wrap 1 = 1 := rfl
  have v2 : IntKind.i64.wrap 2 = 2 := rfl
  have v3 : IntKind.i64.wrap 3 = 3 := rfl
  have v4 : IntKind.i64.wrap 4 = 4 := rfl
  have f4 : ¬ (128 : Int) < s := by omega
  rw [eval_M rfl rfl t_flotsamref07_Need rfl]
  by_cases f0 : (0 : Int) < s
  · by_cases f1 : (32 : Int) < s
    · by_cases f2 : (64 : Int) < s
      · by_cases f3 : (96 : Int) < s
        · rw [show (s + 31) / 32 = 4 by omega]
          simp [c_flotsamref07_Need]
          iterate 5 (rw [l_flotsamref07_Need_0, M_loop, ← l_flotsamref07_Need_0]; simp [b_flotsamref07_Need_0, v0, v1, v2, v3, v4, v32, v64, v96, v128, f0, f1, f2, f3, f4])
          simp [r_flotsamref07_Need_0]
        · rw [show (s + 31) / 32 = 3 by omega]
          simp [c_flotsamref07_Need]
          iterate 4 (rw [l_flotsamref07_Need_0, M_loop, ← l_flotsamref07_Need_0]; simp [b_flotsamref07_Need_0, v0, v1, v2, v3, v4, v32, v64, v96, v128, f0, f1, f2, f3, f4])
          simp [r_flotsamref07_Need_0]
      · rw [show (s + 31) / 32 = 2 by omega]
        simp [c_flotsamref07_Need]
        iterate 3 (rw [l_flotsamref07_Need_0, M_loop, ← l_flotsamref07_Need_0]; simp [b_flotsamref07_Need_0, v0, v1, v2, v3, v4, v32, v64, v96, v128, f0, f1, f2, f4])
        simp [r_flotsamref07_Need_0]
    · rw [show (s + 31) / 32 = 1 by omega]
      simp [c_flotsamref07_Need]
      iterate 2 (rw [l_flotsamref07_Need_0, M_loop, ← l_flotsamref07_Need_0]; simp [b_flotsamref07_Need_0, v0, v1, v2, v3, v4, v32, v64, v96, v128, f0, f1, f4])
      simp [r_flotsamref07_Need_0]
  · rw [show (s + 31) / 32 = 0 by omega]
    simp [c_flotsamref07_Need]
    rw [l_flotsamref07_Need_0, M_loop, ← l_flotsamref07_Need_0]
    simp [b_flotsamref07_Need_0, v0, f0]
    simp [r_flotsamref07_Need_0]

theorem refR0 (s a b c d : Int) (h0 : 0 ≤ s) (h1 : s ≤ 128) (hn : (s + 31) / 32 = 0) (H : Heap) : eval tbl noExt n_flotsamref07_RightInode [.agg [iw 1, iw s, iw a, iw b, iw c, iw d]] H = some (.bool (rinB 0 [a, b, c, d]), H) := by
  have hN := Need_eq s h0 h1 []
  rw [hn] at hN
  have g0 : ¬ s < 0 := by omega
  have g1 : ¬ (128 : Int) < s := by omega
  have v1 : IntKind.i64.wrap 1 = 1 := rfl
  have v2 : IntKind.i64.wrap 2 = 2 := rfl
  have v3 : IntKind.i64.wrap 3 = 3 := rfl
  have v4 : IntKind.i64.wrap 4 = 4 := rfl
  rw [eval_M rfl rfl t_flotsamref07_RightInode rfl]
  simp [c_flotsamref07_RightInode, g0, g1]
  rw [l_flotsamref07_RightInode_1, M_loop, ← l_flotsamref07_RightInode_1]
  by_cases z0 : a = 0
  · simp [b_flotsamref07_RightInode_1, r_flotsamref07_RightInode_0, hN, v1, v2, v3, v4, z0]
    rw [l_flotsamref07_RightInode_1, M_loop, ← l_flotsamref07_RightInode_1]
    by_cases z1 : b = 0
    · simp [b_flotsamref07_RightInode_1, r_flotsamref07_RightInode_0, hN, v1, v2, v3, v4, z1]
      rw [l_flotsamref07_RightInode_1, M_loop, ← l_flotsamref07_RightInode_1]
      by_cases z2 : c = 0
      · simp [b_flotsamref07_RightInode_1, r_flotsamref07_RightInode_0, hN, v1, v2, v3, v4, z2]
        rw [l_flotsamref07_RightInode_1, M_loop, ← l_flotsamref07_RightInode_1]
        by_cases z3 : d = 0
        · simp [b_flotsamref07_RightInode_1, r_flotsamref07_RightInode_0, hN, v1, v2, v3, v4, z3]
          rw [l_flotsamref07_RightInode_1, M_loop, ← l_flotsamref07_RightInode_1]
          simp [b_flotsamref07_RightInode_1, r_flotsamref07_RightInode_1, v1, v2, v3, v4]
          simp [rinB, odd24, z0, z1, z2, z3]
        · simp [b_flotsamref07_RightInode_1, hN, rinB, odd24, z0, z1, z2, z3]
      · simp [b_flotsamref07_RightInode_1, hN, rinB, odd24, z0, z1, z2]
    · simp [b_flotsamref07_RightInode_1, hN, rinB, odd24, z0, z1]
  · simp [b_flotsamref07_RightInode_1, hN, rinB, odd24, z0]

theorem refR1 (s a b c d : Int) (h0 : 0 ≤ s) (h1 : s ≤ 128) (hn : (s + 31) / 32 = 1) (H : Heap) : eval tbl noExt n_flotsamref07_RightInode [.agg [iw 1, iw s, iw a, iw b, iw c, iw d]] H = some (.bool (rinB 1 [a, b, c, d]), H) := by
  have hN := Need_eq s h0 h1 []
  rw [hn] at hN
  have g0 : ¬ s < 0 := by omega
  have g1 : ¬ (128 : Int) < s := by omega
  have v1 : IntKind.i64.wrap 1 = 1 := rfl
  have v2 : IntKind.i64.wrap 2 = 2 := rfl
  have v3 : IntKind.i64.wrap 3 = 3 := rfl
  have v4 : IntKind.i64.wrap 4 = 4 := rfl
  rw [eval_M rfl rfl t_flotsamref07_RightInode rfl]
  simp [c_flotsamref07_RightInode, g0, g1]
  rw [l_flotsamref07_RightInode_1, M_loop, ← l_flotsamref07_RightInode_1]
  by_cases p0 : a < 1
  · simp [b_flotsamref07_RightInode_1, hN, rinB, odd24, p0]
  · by_cases q0 : 24 < a
    · simp [b_flotsamref07_RightInode_1, hN, rinB, odd24, p0, q0]
    · simp [b_flotsamref07_RightInode_1, hN, p0, q0]
      rw [l_flotsamref07_RightInode_0, M_loop, ← l_flotsamref07_RightInode_0]
      simp [b_flotsamref07_RightInode_0, r_flotsamref07_RightInode_0, v1, v2, v3, v4]
      rw [l_flotsamref07_RightInode_1, M_loop, ← l_flotsamref07_RightInode_1]
      by_cases z1 : b = 0
      · simp [b_flotsamref07_RightInode_1, r_flotsamref07_RightInode_0, hN, v1, v2, v3, v4, z1]
        rw [l_flotsamref07_RightInode_1, M_loop, ← l_flotsamref07_RightInode_1]
        by_cases z2 : c = 0
        · simp [b_flotsamref07_RightInode_1, r_flotsamref07_RightInode_0, hN, v1, v2, v3, v4, z2]
          rw [l_flotsamref07_RightInode_1, M_loop, ← l_flotsamref07_RightInode_1]
          by_cases z3 : d = 0
          · simp [b_flotsamref07_RightInode_1, r_flotsamref07_RightInode_0, hN, v1, v2, v3, v4, z3]
            rw [l_flotsamref07_RightInode_1, M_loop, ← l_flotsamref07_RightInode_1]
            simp [b_flotsamref07_RightInode_1, r_flotsamref07_RightInode_1, v1, v2, v3, v4]
            simp [rinB, odd24, p0, q0, z1, z2, z3]
          · simp [b_flotsamref07_RightInode_1, hN, rinB, odd24, p0, q0, z1, z2, z3]
        · simp [b_flotsamref07_RightInode_1, hN, rinB, odd24, p0, q0, z1, z2]
      · simp [b_flotsamref07_RightInode_1, hN, rinB, odd24, p0, q0, z1]

theorem refR2 (s a b c d : Int) (h0 : 0 ≤ s) (h1 : s ≤ 128) (hn : (s + 31) / 32 = 2) (H : Heap) : eval tbl noExt n_flotsamref07_RightInode [.agg [iw 1, iw s, iw a, iw b, iw c, iw d]] H = some (.bool (rinB 2 [a, b, c, d]), H) := by
  have hN := Need_eq s h0 h1 []
  rw [hn] at hN
  have g0 : ¬ s < 0 := by omega
  have g1 : ¬ (128 : Int) < s := by omega
  have v1 : IntKind.i64.wrap 1 = 1 := rfl
  have v2 : IntKind.i64.wrap 2 = 2 := rfl
  have v3 : IntKind.i64.wrap 3 = 3 := rfl
  have v4 : IntKind.i64.wrap 4 = 4 := rfl
  rw [eval_M rfl rfl t_flotsamref07_RightInode rfl]
  simp [c_flotsamref07_RightInode, g0, g1]
  rw [l_flotsamref07_RightInode_1, M_loop, ← l_flotsamref07_RightInode_1]
  by_cases p0 : a < 1
  · simp [b_flotsamref07_RightInode_1, hN, rinB, odd24, p0]
  · by_cases q0 : 24 < a
    · simp [b_flotsamref07_RightInode_1, hN, rinB, odd24, p0, q0]
    · simp [b_flotsamref07_RightInode_1, hN, p0, q0]
      rw [l_flotsamref07_RightInode_0, M_loop, ← l_flotsamref07_RightInode_0]
      simp [b_flotsamref07_RightInode_0, r_flotsamref07_RightInode_0, v1, v2, v3, v4]
      rw [l_flotsamref07_RightInode_1, M_loop, ← l_flotsamref07_RightInode_1]
      by_cases p1 : b < 1
      · simp [b_flotsamref07_RightInode_1, hN, rinB, odd24, p0, q0, p1]
      · by_cases q1 : 24 < b
        · simp [b_flotsamref07_RightInode_1, hN, rinB, odd24, p0, q0, p1, q1]
        · simp [b_flotsamref07_RightInode_1, hN, p1, q1]
          rw [l_flotsamref07_RightInode_0, M_loop, ← l_flotsamref07_RightInode_0]
          by_cases e01 : a = b
          · simp [b_flotsamref07_RightInode_0, p0, q0, p1, q1, e01, rinB, odd24]
          · simp [b_flotsamref07_RightInode_0, e01, v1, v2, v3, v4]
            rw [l_flotsamref07_RightInode_0, M_loop, ← l_flotsamref07_RightInode_0]
            simp [b_flotsamref07_RightInode_0, r_flotsamref07_RightInode_0, v1, v2, v3, v4]
            rw [l_flotsamref07_RightInode_1, M_loop, ← l_flotsamref07_RightInode_1]
            by_cases z2 : c = 0
            · simp [b_flotsamref07_RightInode_1, r_flotsamref07_RightInode_0, hN, v1, v2, v3, v4, z2]
              rw [l_flotsamref07_RightInode_1, M_loop, ← l_flotsamref07_RightInode_1]
              by_cases z3 : d = 0
              · simp [b_flotsamref07_RightInode_1, r_flotsamref07_RightInode_0, hN, v1, v2, v3, v4, z3]
                rw [l_flotsamref07_RightInode_1, M_loop, ← l_flotsamref07_RightInode_1]
                simp [b_flotsamref07_RightInode_1, r_flotsamref07_RightInode_1, v1, v2, v3, v4]
                simp [rinB, odd24, p0, q0, p1, q1, e01, z2, z3]
              · simp [b_flotsamref07_RightInode_1, hN, rinB, odd24, p0, q0, p1, q1, e01, z2, z3]
            · simp [b_flotsamref07_RightInode_1, hN, rinB, odd24, p0, q0, p1, q1, e01, z2]

theorem refR3 (s a b c d : Int) (h0 : 0 ≤ s) (h1 : s ≤ 128) (hn : (s + 31) / 32 = 3) (H : Heap) : eval tbl noExt n_flotsamref07_RightInode [.agg [iw 1, iw s, iw a, iw b, iw c, iw d]] H = some (.bool (rinB 3 [a, b, c, d]), H) := by
  have hN := Need_eq s h0 h1 []
  rw [hn] at hN
  have g0 : ¬ s < 0 := by omega
  have g1 : ¬ (128 : Int) < s := by omega
  have v1 : IntKind.i64.wrap 1 = 1 := rfl
  have v2 : IntKind.i64.wrap 2 = 2 := rfl
  have v3 : IntKind.i64.wrap 3 = 3 := rfl
  have v4 : IntKind.i64.wrap 4 = 4 := rfl
  rw [eval_M rfl rfl t_flotsamref07_RightInode rfl]
  simp [c_flotsamref07_RightInode, g0, g1]
  rw [l_flotsamref07_RightInode_1, M_loop, ← l_flotsamref07_RightInode_1]
  by_cases p0 : a < 1
  · simp [b_flotsamref07_RightInode_1, hN, rinB, odd24, p0]
  · by_cases q0 : 24 < a
    · simp [b_flotsamref07_RightInode_1, hN, rinB, odd24, p0, q0]
    · simp [b_flotsamref07_RightInode_1, hN, p0, q0]
      rw [l_flotsamref07_RightInode_0, M_loop, ← l_flotsamref07_RightInode_0]
      simp [b_flotsamref07_RightInode_0, r_flotsamref07_RightInode_0, v1, v2, v3, v4]
      rw [l_flotsamref07_RightInode_1, M_loop, ← l_flotsamref07_RightInode_1]
      by_cases p1 : b < 1
      · simp [b_flotsamref07_RightInode_1, hN, rinB, odd24, p0, q0, p1]
      · by_cases q1 : 24 < b
        · simp [b_flotsamref07_RightInode_1, hN, rinB, odd24, p0, q0, p1, q1]
        · simp [b_flotsamref07_RightInode_1, hN, p1, q1]
          rw [l_flotsamref07_RightInode_0, M_loop, ← l_flotsamref07_RightInode_0]
          by_cases e01 : a = b
          · simp [b_flotsamref07_RightInode_0, p0, q0, p1, q1, e01, rinB, odd24]
          · simp [b_flotsamref07_RightInode_0, e01, v1, v2, v3, v4]
            rw [l_flotsamref07_RightInode_0, M_loop, ← l_flotsamref07_RightInode_0]
            simp [b_flotsamref07_RightInode_0, r_flotsamref07_RightInode_0, v1, v2, v3, v4]
            rw [l_flotsamref07_RightInode_1, M_loop, ← l_flotsamref07_RightInode_1]
            by_cases p2 : c < 1
            · simp [b_flotsamref07_RightInode_1, hN, rinB, odd24, p0, q0, p1, q1, e01, p2]
            · by_cases q2 : 24 < c
              · simp [b_flotsamref07_RightInode_1, hN, rinB, odd24, p0, q0, p1, q1, e01, p2, q2]
              · simp [b_flotsamref07_RightInode_1, hN, p2, q2]
                rw [l_flotsamref07_RightInode_0, M_loop, ← l_flotsamref07_RightInode_0]
                by_cases e02 : a = c
                · simp [b_flotsamref07_RightInode_0, p0, q0, p1, q1, e01, p2, q2, e02, rinB, odd24]
                · simp [b_flotsamref07_RightInode_0, e02, v1, v2, v3, v4]
                  rw [l_flotsamref07_RightInode_0, M_loop, ← l_flotsamref07_RightInode_0]
                  by_cases e12 : b = c
                  · simp [b_flotsamref07_RightInode_0, p0, q0, p1, q1, e01, p2, q2, e02, e12, rinB, odd24]
                  · simp [b_flotsamref07_RightInode_0, e12, v1, v2, v3, v4]
                    rw [l_flotsamref07_RightInode_0, M_loop, ← l_flotsamref07_RightInode_0]
                    simp [b_flotsamref07_RightInode_0, r_flotsamref07_RightInode_0, v1, v2, v3, v4]
                    rw [l_flotsamref07_RightInode_1, M_loop, ← l_flotsamref07_RightInode_1]
                    by_cases z3 : d = 0
                    · simp [b_flotsamref07_RightInode_1, r_flotsamref07_RightInode_0, hN, v1, v2, v3, v4, z3]
                      rw [l_flotsamref07_RightInode_1, M_loop, ← l_flotsamref07_RightInode_1]
                      simp [b_flotsamref07_RightInode_1, r_flotsamref07_RightInode_1, v1, v2, v3, v4]
                      simp [rinB, odd24, p0, q0, p1, q1, e01, p2, q2, e02, e12, z3]
                    · simp [b_flotsamref07_RightInode_1, hN, rinB, odd24, p0, q0, p1, q1, e01, p2, q2, e02, e12, z3]

theorem refR4 (s a b c d : Int) (h0 : 0 ≤ s) (h1 : s ≤ 128) (hn : (s + 31) / 32 = 4) (H : Heap) : eval tbl noExt n_flotsamref07_RightInode [.agg [iw 1, iw s, iw a, iw b, iw c, iw d]] H = some (.bool (rinB 4 [a, b, c, d]), H) := by
  have hN := Need_eq s h0 h1 []
  rw [hn] at hN
  have g0 : ¬ s < 0 := by omega
  have g1 : ¬ (128 : Int) < s := by omega
  have v1 : IntKind.i64.wrap 1 = 1 := rfl
  have v2 : IntKind.i64.wrap 2 = 2 := rfl
  have v3 : IntKind.i64.wrap 3 = 3 := rfl
  have v4 : IntKind.i64.wrap 4 = 4 := rfl
  rw [eval_M rfl rfl t_flotsamref07_RightInode rfl]
  simp [c_flotsamref07_RightInode, g0, g1]
  rw [l_flotsamref07_RightInode_1, M_loop, ← l_flotsamref07_RightInode_1]
  by_cases p0 : a < 1
  · simp [b_flotsamref07_RightInode_1, hN, rinB, odd24, p0]
  · by_cases q0 : 24 < a
    · simp [b_flotsamref07_RightInode_1, hN, rinB, odd24, p0, q0]
    · simp [b_flotsamref07_RightInode_1, hN, p0, q0]
      rw [l_flotsamref07_RightInode_0, M_loop, ← l_flotsamref07_RightInode_0]
      simp [b_flotsamref07_RightInode_0, r_flotsamref07_RightInode_0, v1, v2, v3, v4]
      rw [l_flotsamref07_RightInode_1, M_loop, ← l_flotsamref07_RightInode_1]
      by_cases p1 : b < 1
      · simp [b_flotsamref07_RightInode_1, hN, rinB, odd24, p0, q0, p1]
      · by_cases q1 : 24 < b
        · simp [b_flotsamref07_RightInode_1, hN, rinB, odd24, p0, q0, p1, q1]
        · simp [b_flotsamref07_RightInode_1, hN, p1, q1]
          rw [l_flotsamref07_RightInode_0, M_loop, ← l_flotsamref07_RightInode_0]
          by_cases e01 : a = b
          · simp [b_flotsamref07_RightInode_0, p0, q0, p1, q1, e01, rinB, odd24]
          · simp [b_flotsamref07_RightInode_0, e01, v1, v2, v3, v4]
            rw [l_flotsamref07_RightInode_0, M_loop, ← l_flotsamref07_RightInode_0]
            simp [b_flotsamref07_RightInode_0, r_flotsamref07_RightInode_0, v1, v2, v3, v4]
            rw [l_flotsamref07_RightInode_1, M_loop, ← l_flotsamref07_RightInode_1]
            by_cases p2 : c < 1
            · simp [b_flotsamref07_RightInode_1, hN, rinB, odd24, p0, q0, p1, q1, e01, p2]
            · by_cases q2 : 24 < c
              · simp [b_flotsamref07_RightInode_1, hN, rinB, odd24, p0, q0, p1, q1, e01, p2, q2]
              · simp [b_flotsamref07_RightInode_1, hN, p2, q2]
                rw [l_flotsamref07_RightInode_0, M_loop, ← l_flotsamref07_RightInode_0]
                by_cases e02 : a = c
                · simp [b_flotsamref07_RightInode_0, p0, q0, p1, q1, e01, p2, q2, e02, rinB, odd24]
                · simp [b_flotsamref07_RightInode_0, e02, v1, v2, v3, v4]
                  rw [l_flotsamref07_RightInode_0, M_loop, ← l_flotsamref07_RightInode_0]
                  by_cases e12 : b = c
                  · simp [b_flotsamref07_RightInode_0, p0, q0, p1, q1, e01, p2, q2, e02, e12, rinB, odd24]
                  · simp [b_flotsamref07_RightInode_0, e12, v1, v2, v3, v4]
                    rw [l_flotsamref07_RightInode_0, M_loop, ← l_flotsamref07_RightInode_0]
                    simp [b_flotsamref07_RightInode_0, r_flotsamref07_RightInode_0, v1, v2, v3, v4]
                    rw [l_flotsamref07_RightInode_1, M_loop, ← l_flotsamref07_RightInode_1]
                    by_cases p3 : d < 1
                    · simp [b_flotsamref07_RightInode_1, hN, rinB, odd24, p0, q0, p1, q1, e01, p2, q2, e02, e12, p3]
                    · by_cases q3 : 24 < d
                      · simp [b_flotsamref07_RightInode_1, hN, rinB, odd24, p0, q0, p1, q1, e01, p2, q2, e02, e12, p3, q3]
                      · simp [b_flotsamref07_RightInode_1, hN, p3, q3]
                        rw [l_flotsamref07_RightInode_0, M_loop, ← l_flotsamref07_RightInode_0]
                        by_cases e03 : a = d
                        · simp [b_flotsamref07_RightInode_0, p0, q0, p1, q1, e01, p2, q2, e02, e12, p3, q3, e03, rinB, odd24]
                        · simp [b_flotsamref07_RightInode_0, e03, v1, v2, v3, v4]
                          rw [l_flotsamref07_RightInode_0, M_loop, ← l_flotsamref07_RightInode_0]
                          by_cases e13 : b = d
                          · simp [b_flotsamref07_RightInode_0, p0, q0, p1, q1, e01, p2, q2, e02, e12, p3, q3, e03, e13, rinB, odd24]
                          · simp [b_flotsamref07_RightInode_0, e13, v1, v2, v3, v4]
                            rw [l_flotsamref07_RightInode_0, M_loop, ← l_flotsamref07_RightInode_0]
                            by_cases e23 : c = d
                            · simp [b_flotsamref07_RightInode_0, p0, q0, p1, q1, e01, p2, q2, e02, e12, p3, q3, e03, e13, e23, rinB, odd24]
                            · simp [b_flotsamref07_RightInode_0, e23, v1, v2, v3, v4]
                              rw [l_flotsamref07_RightInode_0, M_loop, ← l_flotsamref07_RightInode_0]
                              simp [b_flotsamref07_RightInode_0, r_flotsamref07_RightInode_0, v1, v2, v3, v4]
                              rw [l_flotsamref07_RightInode_1, M_loop, ← l_flotsamref07_RightInode_1]
                              simp [b_flotsamref07_RightInode_1, r_flotsamref07_RightInode_1, v1, v2, v3, v4]
                              simp [rinB, odd24, p0, q0, p1, q1, e01, p2, q2, e02, e12, p3, q3, e03, e13, e23]

theorem refRightInode_eq (k s a b c d : Int) (H : Heap) : eval tbl noExt n_flotsamref07_RightInode [.agg [iw k, iw s, iw a, iw b, iw c, iw d]] H = some (.bool (inoOK k s a b c d), H) := by
  unfold inoOK
  by_cases h : k = 0 ∨ k = 2
  · rw [if_pos h, eval_M rfl rfl t_flotsamref07_RightInode rfl]
    rcases h with h | h
    · subst h
      by_cases hs : s = 0
      · simp [c_flotsamref07_RightInode, hs, eqCells, Bool.and_assoc]
      · simp [c_flotsamref07_RightInode, hs, eqCells, Bool.and_assoc]
    · subst h
      by_cases hs : s = 0
      · simp [c_flotsamref07_RightInode, hs, eqCells, Bool.and_assoc]
      · simp [c_flotsamref07_RightInode, hs, eqCells, Bool.and_assoc]
  · rw [if_neg h]
    by_cases h1 : k = 1
    · subst h1
      rw [if_pos rfl]
      by_cases hs : s < 0 ∨ 128 < s
      · rw [if_pos hs, eval_M rfl rfl t_flotsamref07_RightInode rfl]
        by_cases g : s < 0
        · simp [c_flotsamref07_RightInode, g]
        · have g2 : (128 : Int) < s := by omega
          simp [c_flotsamref07_RightInode, g, g2]
      · rw [if_neg hs]
        have h : (s + 31) / 32 = 0 ∨ (s + 31) / 32 = 1 ∨ (s + 31) / 32 = 2 ∨ (s + 31) / 32 = 3 ∨ (s + 31) / 32 = 4 := by omega
        rcases h with h | h | h | h | h <;> rw [h]
        · exact refR0 s a b c d (by omega) (by omega) h H
        · exact refR1 s a b c d (by omega) (by omega) h H
        · exact refR2 s a b c d (by omega) (by omega) h H
        · exact refR3 s a b c d (by omega) (by omega) h H
        · exact refR4 s a b c d (by omega) (by omega) h H
    · rw [if_neg h1, eval_M rfl rfl t_flotsamref07_RightInode rfl]
      have e0 : k ≠ 0 := fun e => h (.inl e)
      have e2 : k ≠ 2 := fun e => h (.inr e)
      simp [c_flotsamref07_RightInode, e0, e2, h1]

end Go.AM.Spec

namespace Go.AM.Spec
set_option linter.unusedVariables false
set_option linter.unusedSimpArgs false
set_option maxHeartbeats 4000000
set_option maxRecDepth 20000

theorem refInode_eq (k s a b c d : Int) (H : Heap) : eval tbl noExt n_flotsamref07_Inode [.agg [iw k, iw s, iw a, iw b, iw c, iw d]] H = some (.tup [.agg (secOf (inoOut k s a b c d)), .bool (inoOK k s a b c d)], H) := by
  have hR := refRightInode_eq k s a b c d []
  rw [eval_M rfl rfl t_flotsamref07_Inode rfl]
  unfold inoOut
  cases hr : inoOK k s a b c d with
  | false =>
    rw [hr] at hR
    simp [c_flotsamref07_Inode, hR, secOf, List.replicate]
  | true =>
    rw [hr] at hR
    obtain ⟨bk, bs, ba, bb, bc, bd⟩ := ino_bounds hr
    have ek := wu8 bk.1 (by omega)
    have es := wu8 bs.1 (by omega)
    have ea := wu8 ba.1 (by omega)
    have eb := wu8 bb.1 (by omega)
    have ec := wu8 bc.1 (by omega)
    have ed := wu8 bd.1 (by omega)
    have v1 : IntKind.i64.wrap 1 = 1 := rfl
    have v2 : IntKind.i64.wrap 2 = 2 := rfl
    have v3 : IntKind.i64.wrap 3 = 3 := rfl
    have v4 : IntKind.i64.wrap 4 = 4 := rfl
    have v5 : IntKind.i64.wrap 5 = 5 := rfl
    simp [c_flotsamref07_Inode, hR, ek, es]
    rw [l_flotsamref07_Inode_0, M_loop, ← l_flotsamref07_Inode_0]
    simp [b_flotsamref07_Inode_0, v1, v2, ea]
    rw [l_flotsamref07_Inode_0, M_loop, ← l_flotsamref07_Inode_0]
    simp [b_flotsamref07_Inode_0, v2, v3, eb]
    rw [l_flotsamref07_Inode_0, M_loop, ← l_flotsamref07_Inode_0]
    simp [b_flotsamref07_Inode_0, v3, v4, ec]
    rw [l_flotsamref07_Inode_0, M_loop, ← l_flotsamref07_Inode_0]
    simp [b_flotsamref07_Inode_0, v4, v5, ed]
    rw [l_flotsamref07_Inode_0, M_loop, ← l_flotsamref07_Inode_0]
    simp [b_flotsamref07_Inode_0, r_flotsamref07_Inode_0]
    rfl

theorem inoOut_ok (k s a b c d : Int) : SecOK (secOf (inoOut k s a b c d)) := SecOK.of _ (inoOut_len ..)

/-- The six numbers ahead in a sector. -/
def six (l : List UInt8) : Int × Int × Int × Int × Int × Int := ((l.getD 0 0).toNat, (l.getD 1 0).toNat, (l.getD 2 0).toNat, (l.getD 3 0).toNat, (l.getD 4 0).toNat, (l.getD 5 0).toNat)
def inoCells (x : Int × Int × Int × Int × Int × Int) : List V := [iw x.1, iw x.2.1, iw x.2.2.1, iw x.2.2.2.1, iw x.2.2.2.2.1, iw x.2.2.2.2.2]
def okOf (x : Int × Int × Int × Int × Int × Int) : Bool := inoOK x.1 x.2.1 x.2.2.1 x.2.2.2.1 x.2.2.2.2.1 x.2.2.2.2.2
def outOf (x : Int × Int × Int × Int × Int × Int) : List Int := inoOut x.1 x.2.1 x.2.2.1 x.2.2.2.1 x.2.2.2.2.1 x.2.2.2.2.2
open Classical in
/-- An inode, of a sector. -/
noncomputable def inoOf (l : List UInt8) : (Int × Int × Int × Int × Int × Int) × Bool :=
  if okOf (six l) = true ∧ bys l = secOf (outOf (six l)) then (six l, true) else ((0, 0, 0, 0, 0, 0), false)

theorem get_at {α : Type} {l : List α} {i : Nat} {c : α} (h : l[i]? = some c) : ∀ h : i < l.length, l[i] = c := fun hi => by
  rw [List.getElem?_eq_getElem hi] at h; exact Option.some.inj h

theorem bys_at (l : List UInt8) (hl : l.length = 32) {i : Nat} (h : i < 32) : (bys l)[i]? = some (u8 (l.getD i 0).toNat) := by
  unfold bys
  rw [List.getElem?_map, List.getD_eq_getElem?_getD, List.getElem?_eq_getElem (by omega)]
  rfl

open Classical in
theorem InodeOf_eq (l : List UInt8) (hl : l.length = 32) (H : Heap) : eval tbl noExt n_layout_InodeOf [.agg (bys l)] H = some (.tup [.agg (inoCells (inoOf l).1), .bool (inoOf l).2], H) := by
  have hb : (bys l).length = 32 := by simp [bys, hl]
  have ok : SecOK (bys l) := ⟨⟨l.map fun c => (c.toNat : Int), by unfold bys secOf; rw [List.map_map]; rfl, by simpa using hl⟩⟩
  have g0 := bys_at l hl (i := 0) (by omega)
  have g1 := bys_at l hl (i := 1) (by omega)
  have g2 := bys_at l hl (i := 2) (by omega)
  have g3 := bys_at l hl (i := 3) (by omega)
  have g4 := bys_at l hl (i := 4) (by omega)
  have g5 := bys_at l hl (i := 5) (by omega)
  have t0 := UInt8.toNat_lt (l.getD 0 0)
  have t1 := UInt8.toNat_lt (l.getD 1 0)
  have t2 := UInt8.toNat_lt (l.getD 2 0)
  have t3 := UInt8.toNat_lt (l.getD 3 0)
  have t4 := UInt8.toNat_lt (l.getD 4 0)
  have t5 := UInt8.toNat_lt (l.getD 5 0)
  have h6 : six l = (((l.getD 0 0).toNat : Int), ((l.getD 1 0).toNat : Int), ((l.getD 2 0).toNat : Int), ((l.getD 3 0).toNat : Int), ((l.getD 4 0).toNat : Int), ((l.getD 5 0).toNat : Int)) := rfl
  unfold inoOf
  rw [h6]
  obtain ⟨p0, hp0⟩ : ∃ x, x = (l.getD 0 0).toNat := ⟨_, rfl⟩
  obtain ⟨p1, hp1⟩ : ∃ x, x = (l.getD 1 0).toNat := ⟨_, rfl⟩
  obtain ⟨p2, hp2⟩ : ∃ x, x = (l.getD 2 0).toNat := ⟨_, rfl⟩
  obtain ⟨p3, hp3⟩ : ∃ x, x = (l.getD 3 0).toNat := ⟨_, rfl⟩
  obtain ⟨p4, hp4⟩ : ∃ x, x = (l.getD 4 0).toNat := ⟨_, rfl⟩
  obtain ⟨p5, hp5⟩ : ∃ x, x = (l.getD 5 0).toNat := ⟨_, rfl⟩
  rw [← hp0] at g0 t0 ⊢
  rw [← hp1] at g1 t1 ⊢
  rw [← hp2] at g2 t2 ⊢
  rw [← hp3] at g3 t3 ⊢
  rw [← hp4] at g4 t4 ⊢
  rw [← hp5] at g5 t5 ⊢
  clear hp0 hp1 hp2 hp3 hp4 hp5 h6
  have k0 := get_at g0
  have k1 := get_at g1
  have k2 := get_at g2
  have k3 := get_at g3
  have k4 := get_at g4
  have k5 := get_at g5
  have w0 : IntKind.i64.wrap (p0 : Int) = p0 := by rw [w64] <;> omega
  have w1 : IntKind.i64.wrap (p1 : Int) = p1 := by rw [w64] <;> omega
  have w2 : IntKind.i64.wrap (p2 : Int) = p2 := by rw [w64] <;> omega
  have w3 : IntKind.i64.wrap (p3 : Int) = p3 := by rw [w64] <;> omega
  have w4 : IntKind.i64.wrap (p4 : Int) = p4 := by rw [w64] <;> omega
  have w5 : IntKind.i64.wrap (p5 : Int) = p5 := by rw [w64] <;> omega
  have v1 : IntKind.i64.wrap 1 = 1 := rfl
  have v2 : IntKind.i64.wrap 2 = 2 := rfl
  have v3 : IntKind.i64.wrap 3 = 3 := rfl
  have v4 : IntKind.i64.wrap 4 = 4 := rfl
  have v5 : IntKind.i64.wrap 5 = 5 := rfl
  have hE := Inode_eq p0 p1 p2 p3 p4 p5 []
  have os := inoOut_ok p0 p1 p2 p3 p4 p5
  have he := ok.eqc os
  have hI : (if okOf ((p0 : Int), (p1 : Int), (p2 : Int), (p3 : Int), (p4 : Int), (p5 : Int)) = true ∧ bys l = secOf (outOf ((p0 : Int), (p1 : Int), (p2 : Int), (p3 : Int), (p4 : Int), (p5 : Int))) then (((p0 : Int), (p1 : Int), (p2 : Int), (p3 : Int), (p4 : Int), (p5 : Int)), true) else ((0, 0, 0, 0, 0, 0), false)) =
      (if inoOK p0 p1 p2 p3 p4 p5 = true ∧ bys l = secOf (inoOut p0 p1 p2 p3 p4 p5) then (((p0 : Int), (p1 : Int), (p2 : Int), (p3 : Int), (p4 : Int), (p5 : Int)), true) else ((0, 0, 0, 0, 0, 0), false)) := rfl
  rw [hI]
  generalize hO : secOf (inoOut p0 p1 p2 p3 p4 p5) = O at *
  rw [eval_M rfl rfl t_layout_InodeOf rfl]
  simp [c_layout_InodeOf, ok.len, ok.take, ok.strip, ok.one, ok.under, g0, g1, k0, k1, w0, w1]
  rw [l_layout_InodeOf_0, M_loop, ← l_layout_InodeOf_0]
  simp [b_layout_InodeOf_0, v1, v2, ok.len, g2, k2, w2]
  rw [l_layout_InodeOf_0, M_loop, ← l_layout_InodeOf_0]
  simp [b_layout_InodeOf_0, v2, v3, ok.len, g3, k3, w3]
  rw [l_layout_InodeOf_0, M_loop, ← l_layout_InodeOf_0]
  simp [b_layout_InodeOf_0, v3, v4, ok.len, g4, k4, w4]
  rw [l_layout_InodeOf_0, M_loop, ← l_layout_InodeOf_0]
  simp [b_layout_InodeOf_0, v4, v5, ok.len, g5, k5, w5]
  rw [l_layout_InodeOf_0, M_loop, ← l_layout_InodeOf_0]
  cases hr : inoOK p0 p1 p2 p3 p4 p5 with
  | false =>
    rw [hr] at hE
    simp [b_layout_InodeOf_0, r_layout_InodeOf_0, hE, os.len, os.take, os.strip, os.one, os.under, h32 os, inoCells]
  | true =>
    rw [hr] at hE
    by_cases hq : bys l = O
    · rw [decide_eq_true hq, hq] at he
      simp [b_layout_InodeOf_0, r_layout_InodeOf_0, hE, ok.len, ok.take, ok.strip, ok.one, ok.under, os.len, os.take, os.strip, os.one, os.under, h32 os, he, hq, inoCells]
    · rw [decide_eq_false hq] at he
      simp [b_layout_InodeOf_0, r_layout_InodeOf_0, hE, ok.len, ok.take, ok.strip, ok.one, ok.under, os.len, os.take, os.strip, os.one, os.under, h32 os, he, hq, inoCells]

open Classical in
theorem refInodeOf_eq (l : List UInt8) (hl : l.length = 32) (H : Heap) : eval tbl noExt n_flotsamref07_InodeOf [.agg (bys l)] H = some (.tup [.agg (inoCells (inoOf l).1), .bool (inoOf l).2], H) := by
  have hb : (bys l).length = 32 := by simp [bys, hl]
  have ok : SecOK (bys l) := ⟨⟨l.map fun c => (c.toNat : Int), by unfold bys secOf; rw [List.map_map]; rfl, by simpa using hl⟩⟩
  have g0 := bys_at l hl (i := 0) (by omega)
  have g1 := bys_at l hl (i := 1) (by omega)
  have g2 := bys_at l hl (i := 2) (by omega)
  have g3 := bys_at l hl (i := 3) (by omega)
  have g4 := bys_at l hl (i := 4) (by omega)
  have g5 := bys_at l hl (i := 5) (by omega)
  have t0 := UInt8.toNat_lt (l.getD 0 0)
  have t1 := UInt8.toNat_lt (l.getD 1 0)
  have t2 := UInt8.toNat_lt (l.getD 2 0)
  have t3 := UInt8.toNat_lt (l.getD 3 0)
  have t4 := UInt8.toNat_lt (l.getD 4 0)
  have t5 := UInt8.toNat_lt (l.getD 5 0)
  have h6 : six l = (((l.getD 0 0).toNat : Int), ((l.getD 1 0).toNat : Int), ((l.getD 2 0).toNat : Int), ((l.getD 3 0).toNat : Int), ((l.getD 4 0).toNat : Int), ((l.getD 5 0).toNat : Int)) := rfl
  unfold inoOf
  rw [h6]
  obtain ⟨p0, hp0⟩ : ∃ x, x = (l.getD 0 0).toNat := ⟨_, rfl⟩
  obtain ⟨p1, hp1⟩ : ∃ x, x = (l.getD 1 0).toNat := ⟨_, rfl⟩
  obtain ⟨p2, hp2⟩ : ∃ x, x = (l.getD 2 0).toNat := ⟨_, rfl⟩
  obtain ⟨p3, hp3⟩ : ∃ x, x = (l.getD 3 0).toNat := ⟨_, rfl⟩
  obtain ⟨p4, hp4⟩ : ∃ x, x = (l.getD 4 0).toNat := ⟨_, rfl⟩
  obtain ⟨p5, hp5⟩ : ∃ x, x = (l.getD 5 0).toNat := ⟨_, rfl⟩
  rw [← hp0] at g0 t0 ⊢
  rw [← hp1] at g1 t1 ⊢
  rw [← hp2] at g2 t2 ⊢
  rw [← hp3] at g3 t3 ⊢
  rw [← hp4] at g4 t4 ⊢
  rw [← hp5] at g5 t5 ⊢
  clear hp0 hp1 hp2 hp3 hp4 hp5 h6
  have k0 := get_at g0
  have k1 := get_at g1
  have k2 := get_at g2
  have k3 := get_at g3
  have k4 := get_at g4
  have k5 := get_at g5
  have w0 : IntKind.i64.wrap (p0 : Int) = p0 := by rw [w64] <;> omega
  have w1 : IntKind.i64.wrap (p1 : Int) = p1 := by rw [w64] <;> omega
  have w2 : IntKind.i64.wrap (p2 : Int) = p2 := by rw [w64] <;> omega
  have w3 : IntKind.i64.wrap (p3 : Int) = p3 := by rw [w64] <;> omega
  have w4 : IntKind.i64.wrap (p4 : Int) = p4 := by rw [w64] <;> omega
  have w5 : IntKind.i64.wrap (p5 : Int) = p5 := by rw [w64] <;> omega
  have v1 : IntKind.i64.wrap 1 = 1 := rfl
  have v2 : IntKind.i64.wrap 2 = 2 := rfl
  have v3 : IntKind.i64.wrap 3 = 3 := rfl
  have v4 : IntKind.i64.wrap 4 = 4 := rfl
  have v5 : IntKind.i64.wrap 5 = 5 := rfl
  have hE := refInode_eq p0 p1 p2 p3 p4 p5 []
  have os := inoOut_ok p0 p1 p2 p3 p4 p5
  have he := os.eqc ok
  have hI : (if okOf ((p0 : Int), (p1 : Int), (p2 : Int), (p3 : Int), (p4 : Int), (p5 : Int)) = true ∧ bys l = secOf (outOf ((p0 : Int), (p1 : Int), (p2 : Int), (p3 : Int), (p4 : Int), (p5 : Int))) then (((p0 : Int), (p1 : Int), (p2 : Int), (p3 : Int), (p4 : Int), (p5 : Int)), true) else ((0, 0, 0, 0, 0, 0), false)) =
      (if inoOK p0 p1 p2 p3 p4 p5 = true ∧ bys l = secOf (inoOut p0 p1 p2 p3 p4 p5) then (((p0 : Int), (p1 : Int), (p2 : Int), (p3 : Int), (p4 : Int), (p5 : Int)), true) else ((0, 0, 0, 0, 0, 0), false)) := rfl
  rw [hI]
  generalize hO : secOf (inoOut p0 p1 p2 p3 p4 p5) = O at *
  rw [eval_M rfl rfl t_flotsamref07_InodeOf rfl]
  simp [c_flotsamref07_InodeOf, ok.len, ok.take, ok.strip, ok.one, ok.under, g0, g1, k0, k1, w0, w1]
  rw [l_flotsamref07_InodeOf_0, M_loop, ← l_flotsamref07_InodeOf_0]
  simp [b_flotsamref07_InodeOf_0, v1, v2, ok.len, g2, k2, w2]
  rw [l_flotsamref07_InodeOf_0, M_loop, ← l_flotsamref07_InodeOf_0]
  simp [b_flotsamref07_InodeOf_0, v2, v3, ok.len, g3, k3, w3]
  rw [l_flotsamref07_InodeOf_0, M_loop, ← l_flotsamref07_InodeOf_0]
  simp [b_flotsamref07_InodeOf_0, v3, v4, ok.len, g4, k4, w4]
  rw [l_flotsamref07_InodeOf_0, M_loop, ← l_flotsamref07_InodeOf_0]
  simp [b_flotsamref07_InodeOf_0, v4, v5, ok.len, g5, k5, w5]
  rw [l_flotsamref07_InodeOf_0, M_loop, ← l_flotsamref07_InodeOf_0]
  cases hr : inoOK p0 p1 p2 p3 p4 p5 with
  | false =>
    rw [hr] at hE
    simp [b_flotsamref07_InodeOf_0, r_flotsamref07_InodeOf_0, hE, os.len, os.take, os.strip, os.one, os.under, h32 os, inoCells]
  | true =>
    rw [hr] at hE
    by_cases hq : bys l = O
    · rw [decide_eq_true hq.symm, hq] at he
      simp [b_flotsamref07_InodeOf_0, r_flotsamref07_InodeOf_0, hE, ok.len, ok.take, ok.strip, ok.one, ok.under, os.len, os.take, os.strip, os.one, os.under, h32 os, he, hq, inoCells]
    · rw [decide_eq_false (fun h => hq h.symm)] at he
      simp [b_flotsamref07_InodeOf_0, r_flotsamref07_InodeOf_0, hE, ok.len, ok.take, ok.strip, ok.one, ok.under, os.len, os.take, os.strip, os.one, os.under, h32 os, he, hq, inoCells]

end Go.AM.Spec

namespace Go.AM.Spec
set_option linter.unusedVariables false
set_option linter.unusedSimpArgs false
set_option maxHeartbeats 4000000
set_option maxRecDepth 20000

theorem ino_eqs (a b c d e f : Int) : eqCells [.int .i64, .int .i64, .int .i64, .int .i64, .int .i64, .int .i64] [iw a, iw b, iw c, iw d, iw e, iw f] [iw a, iw b, iw c, iw d, iw e, iw f] = some true := by
  simp [eqCells]

open Classical in
theorem LayoutInodes_eq (k s a b c d : Int) (l : List UInt8) (hl : l.length = 32) : eval tbl noExt n_flotsamlaw07_LayoutInodes [.agg [iw k, iw s, iw a, iw b, iw c, iw d], .agg (bys l)] [] = some (.bool true, []) := by
  have hk := knows07
  have hb : (bys l).length = 32 := by simp [bys, hl]
  have ok : SecOK (bys l) := ⟨⟨l.map fun c => (c.toNat : Int), by unfold bys secOf; rw [List.map_map]; rfl, by simpa using hl⟩⟩
  have hE := Inode_eq k s a b c d []
  have hE' := refInode_eq k s a b c d []
  have hR := RightInode_eq k s a b c d []
  have hR' := refRightInode_eq k s a b c d []
  have hO := InodeOf_eq l hl []
  have hO' := refInodeOf_eq l hl []
  have oo := inoOut_ok k s a b c d
  generalize secOf (inoOut k s a b c d) = O at *
  have he := oo.eqc oo
  rw [decide_eq_true rfl] at he
  obtain ⟨y, hy⟩ : ∃ y, y = inoOf l := ⟨_, rfl⟩
  rw [← hy] at hO hO'
  obtain ⟨⟨y0, y1, y2, y3, y4, y5⟩, r⟩ := y
  simp only [inoCells] at hO hO'
  have hes := ino_eqs y0 y1 y2 y3 y4 y5
  rw [eval_M rfl rfl t_flotsamlaw07_LayoutInodes rfl]
  simp [c_flotsamlaw07_LayoutInodes, ok.len, ok.take, ok.strip, ok.one, ok.under, oo.len, oo.take, oo.strip, oo.one, oo.under, h32 oo, hE, hE', hR, hR', hO, hO', he, hes, hk]

theorem LayoutInodes_all (x : Ino) (l : List UInt8) (hl : l.length = 32) : ∃ H', eval tbl noExt n_flotsamlaw07_LayoutInodes [.agg x.cells, .agg (bys l)] [] = some (.bool true, H') := ⟨_, LayoutInodes_eq x.1 x.2 x.3 x.4 x.5 x.6 l hl⟩

end Go.AM.Spec

namespace Go.AM.Spec
set_option linter.unusedVariables false
set_option linter.unusedSimpArgs false
set_option maxHeartbeats 4000000
set_option maxRecDepth 20000

def toB (L : List Int) : List UInt8 := L.map fun n => UInt8.ofNat n.toNat
theorem byte_back {n : Int} (h0 : 0 ≤ n) (h1 : n ≤ 255) : ((UInt8.ofNat n.toNat).toNat : Int) = n := by
  rw [UInt8.toNat_ofNat']
  omega
theorem bys_toB : ∀ {L : List Int}, (∀ n ∈ L, 0 ≤ n ∧ n ≤ 255) → bys (toB L) = secOf L
  | [], _ => rfl
  | n :: L, h => by
    have ih := bys_toB (L := L) (fun m hm => h m (by simp [hm]))
    have hb := byte_back (h n (by simp)).1 (h n (by simp)).2
    unfold toB bys secOf at ih ⊢
    simp only [List.map_cons, ih, hb]

theorem inoL_bounds {k s a b c d : Int} (h : inoOK k s a b c d = true) : ∀ n ∈ inoL k s a b c d, 0 ≤ n ∧ n ≤ 255 := by
  obtain ⟨h0, h1, h2, h3, h4, h5⟩ := ino_bounds h
  intro n hn
  unfold inoL at hn
  rcases List.mem_append.1 hn with hn | hn
  · simp only [List.mem_cons, List.not_mem_nil, or_false] at hn
    rcases hn with rfl | rfl | rfl | rfl | rfl | rfl <;> omega
  · have := (List.mem_replicate.1 hn).2
    omega

theorem inoL_len (k s a b c d : Int) : (inoL k s a b c d).length = 32 := rfl
theorem toB_len (L : List Int) : (toB L).length = L.length := by simp [toB]

theorem six_toB {k s a b c d : Int} (h : inoOK k s a b c d = true) : six (toB (inoL k s a b c d)) = (k, s, a, b, c, d) := by
  obtain ⟨h0, h1, h2, h3, h4, h5⟩ := ino_bounds h
  show (((UInt8.ofNat k.toNat).toNat : Int), ((UInt8.ofNat s.toNat).toNat : Int), ((UInt8.ofNat a.toNat).toNat : Int), ((UInt8.ofNat b.toNat).toNat : Int), ((UInt8.ofNat c.toNat).toNat : Int), ((UInt8.ofNat d.toNat).toNat : Int)) = _
  rw [byte_back h0.1 (by omega), byte_back h1.1 (by omega), byte_back h2.1 (by omega), byte_back h3.1 (by omega), byte_back h4.1 (by omega), byte_back h5.1 (by omega)]

theorem inoOf_back {k s a b c d : Int} (h : inoOK k s a b c d = true) : inoOf (toB (inoL k s a b c d)) = ((k, s, a, b, c, d), true) := by
  unfold inoOf
  rw [six_toB h, if_pos]
  refine ⟨h, ?_⟩
  show _ = secOf (inoOut k s a b c d)
  unfold inoOut
  rw [if_pos h, bys_toB (inoL_bounds h)]

theorem InodeOf_back {k s a b c d : Int} (h : inoOK k s a b c d = true) (H : Heap) : eval tbl noExt n_layout_InodeOf [.agg (secOf (inoL k s a b c d))] H = some (.tup [.agg [iw k, iw s, iw a, iw b, iw c, iw d], .bool true], H) := by
  have := InodeOf_eq (toB (inoL k s a b c d)) (by rw [toB_len]; rfl) H
  rw [bys_toB (inoL_bounds h), inoOf_back h] at this
  exact this

theorem Torn_ino (k s a b c d k' s' a' b' c' d' : Int) : eval tbl noExt n_sector_Torn [.agg (secOf (inoL k' s' a' b' c' d')), .agg (secOf (inoL k s a b c d))] [] = some (.agg (secOf (inoL k s a b c d)), []) := by
  rw [eval_M rfl rfl t_sector_Torn rfl]
  simp [c_sector_Torn, secOf, inoL, List.replicate]

/-- An entry's bytes. -/
def enB (e : En) : List UInt8 := [1, UInt8.ofNat e.parent.toNat, UInt8.ofNat e.target.toNat, UInt8.ofNat e.name.length] ++ (List.replicate 12 0 ++ (e.name ++ List.replicate (16 - e.name.length) 0))

theorem enB_len {e : En} (h : e.name.length ≤ 8) : (enB e).length = 32 := by
  simp [enB]; omega

theorem bys_app (a b : List UInt8) : bys (a ++ b) = bys a ++ bys b := by simp [bys]
theorem bys_rep (n : Nat) : bys (List.replicate n 0) = List.replicate n (u8 0) := by simp [bys]

theorem bys_enB {e : En} (h : e.right = true) (hu : e.used = true) : bys (enB e) = e.sec := by
  obtain ⟨r1, r2, r3, r4, r5⟩ := right_used h hu
  unfold enB En.sec secAt
  rw [if_pos hu, bys_app, bys_app, bys_app, bys_rep, bys_rep, List.take_length]
  have e1 : bys [1, UInt8.ofNat e.parent.toNat, UInt8.ofNat e.target.toNat, UInt8.ofNat e.name.length] = [u8 1, u8 ((UInt8.ofNat e.parent.toNat).toNat : Int), u8 ((UInt8.ofNat e.target.toNat).toNat : Int), u8 ((UInt8.ofNat e.name.length).toNat : Int)] := rfl
  have e2 := byte_back (n := (e.name.length : Int)) (by omega) (by omega)
  rw [Int.toNat_natCast] at e2
  rw [e1, byte_back r1 (by omega), byte_back (n := e.target) (by omega) (by omega), e2]

theorem entIn_enB {e : En} (h : e.right = true) (hu : e.used = true) : entIn (enB e) = e := by
  obtain ⟨r1, r2, r3, r4, r5⟩ := right_used h hu
  have e2 := byte_back (n := (e.name.length : Int)) (by omega) (by omega)
  rw [Int.toNat_natCast] at e2
  have e3 : (UInt8.ofNat e.name.length).toNat = e.name.length := by omega
  unfold entIn
  show En.mk true ((UInt8.ofNat e.parent.toNat).toNat : Int) (cutOf (enB e) (UInt8.ofNat e.name.length).toNat) ((UInt8.ofNat e.target.toNat).toNat : Int) = e
  rw [byte_back r1 (by omega), byte_back (n := e.target) (by omega) (by omega), e3]
  have e4 : cutOf (enB e) e.name.length = e.name := by
    unfold cutOf
    rw [if_pos (by omega)]
    show ((e.name ++ List.replicate (16 - e.name.length) 0)).take e.name.length = e.name
    simp
  rw [e4]
  obtain ⟨u, p, n, t⟩ := e
  simp only at hu
  subst hu
  rfl

theorem bys_zero : bys (List.replicate 32 0) = zeroSec := rfl

theorem sec_nonzero {e : En} (hu : e.used = true) : e.sec ≠ zeroSec := by
  intro h
  have := sec_get0 e hu
  rw [h] at this
  exact absurd this (by simp [zeroSec, List.replicate])

/-- What an entry's sector tells: the entry. -/
theorem EntryOf_back {e : En} (h : e.right = true) (H : Heap) : eval tbl noExt n_layout_EntryOf [.agg e.out] H = some (.tup [.agg e.cells, .bool true], H) := by
  unfold En.out
  rw [if_pos h]
  cases hu : e.used with
  | true =>
    obtain ⟨r1, r2, r3, r4, r5⟩ := right_used h hu
    have := EntryOf_eq (enB e) (enB_len r5) H
    rw [bys_enB h hu] at this
    have h2 : entOf (enB e) = (e, true) := by
      unfold entOf
      rw [bys_enB h hu, if_neg (sec_nonzero hu), entIn_enB h hu, if_pos ⟨h, rfl⟩]
    rw [h2] at this
    exact this
  | false =>
    have hz : e = zeroEn := by
      unfold En.right at h
      rw [if_neg (by simp [hu])] at h
      simpa using h
    subst hz
    have := EntryOf_eq (List.replicate 32 0) rfl H
    rw [bys_zero] at this
    have h2 : entOf (List.replicate 32 0) = (zeroEn, true) := by
      unfold entOf
      rw [bys_zero, if_pos rfl]
    rw [h2] at this
    exact this

/-- A sector that tells an inode is that inode's. -/
theorem inoOf_had {l : List UInt8} (h : (inoOf l).2 = true) : okOf (inoOf l).1 = true ∧ secOf (outOf (inoOf l).1) = bys l := by
  unfold inoOf at h ⊢
  split
  · rename_i hc
    exact ⟨hc.1, hc.2.symm⟩
  · rename_i hc
    rw [if_neg hc] at h
    cases h

theorem entOf_met {l : List UInt8} (h : (entOf l).2 = true) : (entOf l).1.out = bys l := by
  unfold entOf at h ⊢
  split
  · rename_i hc
    rw [hc]; rfl
  · rename_i hz
    rw [if_neg hz] at h
    split
    · rename_i hc
      unfold En.out
      rw [if_pos hc.1, hc.2]
    · rename_i hc
      rw [if_neg hc] at h
      cases h

theorem entOf_name (l : List UInt8) : (entOf l).1.name.length ≤ 1000 := by
  unfold entOf
  split
  · exact Nat.zero_le _
  · split
    · exact Nat.le_trans (cut_len _ _) (by omega)
    · exact Nat.zero_le _

end Go.AM.Spec

namespace Go.AM.Spec
set_option linter.unusedVariables false
set_option linter.unusedSimpArgs false
set_option maxHeartbeats 4000000
set_option maxRecDepth 20000

theorem inoOut_true {k s a b c d : Int} (h : inoOK k s a b c d = true) : inoOut k s a b c d = inoL k s a b c d := by unfold inoOut; rw [if_pos h]

theorem LayoutBack_eq (x y : Ino) (e : En) (l : List UInt8) (hl : l.length = 32) : eval tbl noExt n_flotsamlaw07_LayoutBack [.agg x.cells, .agg y.cells, .agg e.cells, .agg (bys l)] [] = some (.bool true, []) := by
  have hk := knows07
  have hc : e.cells = [.bool e.used, iw e.parent, .str e.name, iw e.target] := rfl
  obtain ⟨k, s, a, b, c, d⟩ := x
  obtain ⟨k', s', a', b', c', d'⟩ := y
  simp only [Ino.cells]
  have os := bys_ok hl
  by_cases hn : e.name.length ≤ 300
  · have hn' : ¬ (300 : Int) < e.name.length := by omega
    obtain ⟨A, ok, hA, oA, hAO⟩ : ∃ A ok, eval tbl noExt n_layout_Inode [.agg [iw k, iw s, iw a, iw b, iw c, iw d]] [] = some (.tup [.agg A, .bool ok], []) ∧ SecOK A ∧
        (ok = true → inoOK k s a b c d = true ∧ A = secOf (inoL k s a b c d) ∧ eval tbl noExt n_layout_InodeOf [.agg A] [] = some (.tup [.agg [iw k, iw s, iw a, iw b, iw c, iw d], .bool true], [])) :=
      ⟨_, _, Inode_eq k s a b c d [], inoOut_ok .., fun h => ⟨h, by rw [inoOut_true h], by rw [inoOut_true h]; exact InodeOf_back h []⟩⟩
    obtain ⟨B, is, hB, oB, hT⟩ : ∃ B is, eval tbl noExt n_layout_Inode [.agg [iw k', iw s', iw a', iw b', iw c', iw d']] [] = some (.tup [.agg B, .bool is], []) ∧ SecOK B ∧ (ok = true → is = true → eval tbl noExt n_sector_Torn [.agg B, .agg A] [] = some (.agg A, [])) :=
      ⟨_, _, Inode_eq k' s' a' b' c' d' [], inoOut_ok .., fun h1 h2 => by rw [inoOut_true h2, (hAO h1).2.1]; exact Torn_ino ..⟩
    obtain ⟨C, may, hC, oC, hCO⟩ : ∃ C may, eval tbl noExt n_layout_Entry [.agg e.cells] [] = some (.tup [.agg C, .bool may], []) ∧ SecOK C ∧ (may = true → eval tbl noExt n_layout_EntryOf [.agg C] [] = some (.tup [.agg e.cells, .bool true], [])) :=
      ⟨_, _, Entry_eq e (by omega) [], out_ok e, fun h => EntryOf_back h []⟩
    have hAO' := fun h => (hAO h).2.2
    clear hAO
    obtain ⟨p0, p1, p2, p3, p4, p5, had, U, iu, hP, hU, oU, hUe⟩ : ∃ p0 p1 p2 p3 p4 p5 had U iu, eval tbl noExt n_layout_InodeOf [.agg (bys l)] [] = some (.tup [.agg [iw p0, iw p1, iw p2, iw p3, iw p4, iw p5], .bool had], []) ∧
        eval tbl noExt n_layout_Inode [.agg [iw p0, iw p1, iw p2, iw p3, iw p4, iw p5]] [] = some (.tup [.agg U, .bool iu], []) ∧ SecOK U ∧ (had = true → U = bys l) := by
      have h1 := InodeOf_eq l hl []
      have h2 := @inoOf_had l
      generalize inoOf l = z at h1 h2
      obtain ⟨⟨p0, p1, p2, p3, p4, p5⟩, had⟩ := z
      exact ⟨p0, p1, p2, p3, p4, p5, had, _, _, h1, Inode_eq p0 p1 p2 p3 p4 p5 [], inoOut_ok .., fun h => (h2 h).2⟩
    obtain ⟨u, pq, nq, tq, met, W, iv, hQ, hW, oW, hWe⟩ : ∃ u pq nq tq met W iv, eval tbl noExt n_layout_EntryOf [.agg (bys l)] [] = some (.tup [.agg [.bool u, iw pq, .str nq, iw tq], .bool met], []) ∧
        eval tbl noExt n_layout_Entry [.agg [.bool u, iw pq, .str nq, iw tq]] [] = some (.tup [.agg W, .bool iv], []) ∧ SecOK W ∧ (met = true → W = bys l) := by
      have h1 := EntryOf_eq l hl []
      have h2 := @entOf_met l
      have h3 := entOf_name l
      generalize entOf l = z at h1 h2 h3
      obtain ⟨⟨u, pq, nq, tq⟩, met⟩ := z
      exact ⟨u, pq, nq, tq, met, _, _, h1, Entry_eq ⟨u, pq, nq, tq⟩ h3 [], out_ok _, h2⟩
    have ie := ino_eqs k s a b c d
    have ee := En.eqs e
    rw [hc] at hC hCO ee ⊢
    generalize bys l = S at *
    classical
    have aa := oA.eqc oA
    have ss := os.eqc os
    rw [decide_eq_true rfl] at aa ss
    rw [eval_M rfl rfl t_flotsamlaw07_LayoutBack rfl]
    cases had <;> cases met <;> cases ok <;> cases is <;> cases may <;>
      simp [c_flotsamlaw07_LayoutBack, hn', hk, os.len, os.take, os.strip, os.one, os.under, oA.len, oA.take, oA.strip, oA.one, oA.under, h32 oA, oB.len, oB.take, oB.strip, oB.one, oB.under, h32 oB, oC.len, oC.take, oC.strip, oC.one, oC.under, h32 oC, oU.len, oU.take, oU.strip, oU.one, oU.under, h32 oU, oW.len, oW.take, oW.strip, oW.one, oW.under, h32 oW, h32 os, hA, hB, hC, hP, hU, hQ, hW, hAO', hT, hCO, hUe, hWe, ie, ee, aa, ss]
  · have hn' : (300 : Int) < e.name.length := by omega
    rw [hc, eval_M rfl rfl t_flotsamlaw07_LayoutBack rfl]
    simp [c_flotsamlaw07_LayoutBack, hn, hn', hk]

theorem LayoutBack_all (x y : Ino) (e : En) (l : List UInt8) (hl : l.length = 32) : ∃ H', eval tbl noExt n_flotsamlaw07_LayoutBack [.agg x.cells, .agg y.cells, .agg e.cells, .agg (bys l)] [] = some (.bool true, H') := ⟨_, LayoutBack_eq x y e l hl⟩

end Go.AM.Spec
