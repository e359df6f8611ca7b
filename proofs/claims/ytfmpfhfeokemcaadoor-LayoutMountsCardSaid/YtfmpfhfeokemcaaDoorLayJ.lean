/-
  Inodes: which may be, in the document; printed by a program (mkrin.py).
-/
import Derived.Test.YtfmpfhfeokemcaaDoorLayH
namespace Go.AM.Spec
set_option linter.unusedVariables false
set_option linter.unusedSimpArgs false
set_option maxHeartbeats 4000000
set_option maxRecDepth 20000

theorem Need_eq (s : Int) (h0 : 0 ≤ s) (h1 : s ≤ 128) (H : Heap) : eval tbl noExt n_flotsamref07_Need [iw s] H = some (iw ((s + 31) / 32), H) := by
  have v32 : IntKind.i64.wrap 32 = 32 := rfl
  have v64 : IntKind.i64.wrap 64 = 64 := rfl
  have v96 : IntKind.i64.wrap 96 = 96 := rfl
  have v128 : IntKind.i64.wrap 128 = 128 := rfl
  have v0 : IntKind.i64.wrap 0 = 0 := rfl
  have v1 : IntKind.i64.wrap 1 = 1 := rfl
  have v2 : IntKind.i64.wrap 2 = 2 := rfl
  have v3 : IntKind.i64.wrap 3 = 3 := rfl
  have v4 : IntKind.i64.wrap 4 = 4 := rfl
  have f4 : ¬ (128 : Int) < s := by omega
  rw [eval_M rfl rfl t_flotsamref07_Need rfl]
  by_cases f0 : (0 : Int) < s
  · by_cases f1 : (32 : Int) < s
    · by_cases f2 : (64 : Int) < s
      · by_cases f3 : (96 : Int) < s
        · rw [show (s + 31) / 32 = 4 by omega]
          simp [c_flotsamref07_Need]
          iterate 5 (rw [l_flotsamref07_Need_0, M_loop, ← l_flotsamref07_Need_0]; simp [b_flotsamref07_Need_0, v0, v1, v2, v3, v4, v32, v64, v96, v128, f0, f1, f2, f3, f4])
          simp [r_flotsamref07_Need_0]
        · rw [show (s + 31) / 32 = 3 by omega]
          simp [c_flotsamref07_Need]
          iterate 4 (rw [l_flotsamref07_Need_0, M_loop, ← l_flotsamref07_Need_0]; simp [b_flotsamref07_Need_0, v0, v1, v2, v3, v4, v32, v64, v96, v128, f0, f1, f2, f3, f4])
          simp [r_flotsamref07_Need_0]
      · rw [show (s + 31) / 32 = 2 by omega]
        simp [c_flotsamref07_Need]
        iterate 3 (rw [l_flotsamref07_Need_0, M_loop, ← l_flotsamref07_Need_0]; simp [b_flotsamref07_Need_0, v0, v1, v2, v3, v4, v32, v64, v96, v128, f0, f1, f2, f4])
        simp [r_flotsamref07_Need_0]
    · rw [show (s + 31) / 32 = 1 by omega]
      simp [c_flotsamref07_Need]
      iterate 2 (rw [l_flotsamref07_Need_0, M_loop, ← l_flotsamref07_Need_0]; simp [b_flotsamref07_Need_0, v0, v1, v2, v3, v4, v32, v64, v96, v128, f0, f1, f4])
      simp [r_flotsamref07_Need_0]
  · rw [show (s + 31) / 32 = 0 by omega]
    simp [c_flotsamref07_Need]
    rw [l_flotsamref07_Need_0, M_loop, ← l_flotsamref07_Need_0]
    simp [b_flotsamref07_Need_0, v0, f0]
    simp [r_flotsamref07_Need_0]

theorem refR0 (s a b c d : Int) (h0 : 0 ≤ s) (h1 : s ≤ 128) (hn : (s + 31) / 32 = 0) (H : Heap) : eval tbl noExt n_flotsamref07_RightInode [.agg [iw 1, iw s, iw a, iw b, iw c, iw d]] H = some (.bool (rinB 0 [a, b, c, d]), H) := by
  have hN := Need_eq s h0 h1 []
  rw [hn] at hN
  have g0 : ¬ s < 0 := by omega
  have g1 : ¬ (128 : Int) < s := by omega
  have v1 : IntKind.i64.wrap 1 = 1 := rfl
  have v2 : IntKind.i64.wrap 2 = 2 := rfl
  have v3 : IntKind.i64.wrap 3 = 3 := rfl
  have v4 : IntKind.i64.wrap 4 = 4 := rfl
  rw [eval_M rfl rfl t_flotsamref07_RightInode rfl]
  simp [c_flotsamref07_RightInode, g0, g1]
  rw [l_flotsamref07_RightInode_1, M_loop, ← l_flotsamref07_RightInode_1]
  by_cases z0 : a = 0
  · simp [b_flotsamref07_RightInode_1, r_flotsamref07_RightInode_0, hN, v1, v2, v3, v4, z0]
    rw [l_flotsamref07_RightInode_1, M_loop, ← l_flotsamref07_RightInode_1]
    by_cases z1 : b = 0
    · simp [b_flotsamref07_RightInode_1, r_flotsamref07_RightInode_0, hN, v1, v2, v3, v4, z1]
      rw [l_flotsamref07_RightInode_1, M_loop, ← l_flotsamref07_RightInode_1]
      by_cases z2 : c = 0
      · simp [b_flotsamref07_RightInode_1, r_flotsamref07_RightInode_0, hN, v1, v2, v3, v4, z2]
        rw [l_flotsamref07_RightInode_1, M_loop, ← l_flotsamref07_RightInode_1]
        by_cases z3 : d = 0
        · simp [b_flotsamref07_RightInode_1, r_flotsamref07_RightInode_0, hN, v1, v2, v3, v4, z3]
          rw [l_flotsamref07_RightInode_1, M_loop, ← l_flotsamref07_RightInode_1]
          simp [b_flotsamref07_RightInode_1, r_flotsamref07_RightInode_1, v1, v2, v3, v4]
          simp [rinB, odd24, z0, z1, z2, z3]
        · simp [b_flotsamref07_RightInode_1, hN, rinB, odd24, z0, z1, z2, z3]
      · simp [b_flotsamref07_RightInode_1, hN, rinB, odd24, z0, z1, z2]
    · simp [b_flotsamref07_RightInode_1, hN, rinB, odd24, z0, z1]
  · simp [b_flotsamref07_RightInode_1, hN, rinB, odd24, z0]

theorem refR1 (s a b c d : Int) (h0 : 0 ≤ s) (h1 : s ≤ 128) (hn : (s + 31) / 32 = 1) (H : Heap) : eval tbl noExt n_flotsamref07_RightInode [.agg [iw 1, iw s, iw a, iw b, iw c, iw d]] H = some (.bool (rinB 1 [a, b, c, d]), H) := by
  have hN := Need_eq s h0 h1 []
  rw [hn] at hN
  have g0 : ¬ s < 0 := by omega
  have g1 : ¬ (128 : Int) < s := by omega
  have v1 : IntKind.i64.wrap 1 = 1 := rfl
  have v2 : IntKind.i64.wrap 2 = 2 := rfl
  have v3 : IntKind.i64.wrap 3 = 3 := rfl
  have v4 : IntKind.i64.wrap 4 = 4 := rfl
  rw [eval_M rfl rfl t_flotsamref07_RightInode rfl]
  simp [c_flotsamref07_RightInode, g0, g1]
  rw [l_flotsamref07_RightInode_1, M_loop, ← l_flotsamref07_RightInode_1]
  by_cases p0 : a < 1
  · simp [b_flotsamref07_RightInode_1, hN, rinB, odd24, p0]
  · by_cases q0 : 24 < a
    · simp [b_flotsamref07_RightInode_1, hN, rinB, odd24, p0, q0]
    · simp [b_flotsamref07_RightInode_1, hN, p0, q0]
      rw [l_flotsamref07_RightInode_0, M_loop, ← l_flotsamref07_RightInode_0]
      simp [b_flotsamref07_RightInode_0, r_flotsamref07_RightInode_0, v1, v2, v3, v4]
      rw [l_flotsamref07_RightInode_1, M_loop, ← l_flotsamref07_RightInode_1]
      by_cases z1 : b = 0
      · simp [b_flotsamref07_RightInode_1, r_flotsamref07_RightInode_0, hN, v1, v2, v3, v4, z1]
        rw [l_flotsamref07_RightInode_1, M_loop, ← l_flotsamref07_RightInode_1]
        by_cases z2 : c = 0
        · simp [b_flotsamref07_RightInode_1, r_flotsamref07_RightInode_0, hN, v1, v2, v3, v4, z2]
          rw [l_flotsamref07_RightInode_1, M_loop, ← l_flotsamref07_RightInode_1]
          by_cases z3 : d = 0
          · simp [b_flotsamref07_RightInode_1, r_flotsamref07_RightInode_0, hN, v1, v2, v3, v4, z3]
            rw [l_flotsamref07_RightInode_1, M_loop, ← l_flotsamref07_RightInode_1]
            simp [b_flotsamref07_RightInode_1, r_flotsamref07_RightInode_1, v1, v2, v3, v4]
            simp [rinB, odd24, p0, q0, z1, z2, z3]
          · simp [b_flotsamref07_RightInode_1, hN, rinB, odd24, p0, q0, z1, z2, z3]
        · simp [b_flotsamref07_RightInode_1, hN, rinB, odd24, p0, q0, z1, z2]
      · simp [b_flotsamref07_RightInode_1, hN, rinB, odd24, p0, q0, z1]

theorem refR2 (s a b c d : Int) (h0 : 0 ≤ s) (h1 : s ≤ 128) (hn : (s + 31) / 32 = 2) (H : Heap) : eval tbl noExt n_flotsamref07_RightInode [.agg [iw 1, iw s, iw a, iw b, iw c, iw d]] H = some (.bool (rinB 2 [a, b, c, d]), H) := by
  have hN := Need_eq s h0 h1 []
  rw [hn] at hN
  have g0 : ¬ s < 0 := by omega
  have g1 : ¬ (128 : Int) < s := by omega
  have v1 : IntKind.i64.wrap 1 = 1 := rfl
  have v2 : IntKind.i64.wrap 2 = 2 := rfl
  have v3 : IntKind.i64.wrap 3 = 3 := rfl
  have v4 : IntKind.i64.wrap 4 = 4 := rfl
  rw [eval_M rfl rfl t_flotsamref07_RightInode rfl]
  simp [c_flotsamref07_RightInode, g0, g1]
  rw [l_flotsamref07_RightInode_1, M_loop, ← l_flotsamref07_RightInode_1]
  by_cases p0 : a < 1
  · simp [b_flotsamref07_RightInode_1, hN, rinB, odd24, p0]
  · by_cases q0 : 24 < a
    · simp [b_flotsamref07_RightInode_1, hN, rinB, odd24, p0, q0]
    · simp [b_flotsamref07_RightInode_1, hN, p0, q0]
      rw [l_flotsamref07_RightInode_0, M_loop, ← l_flotsamref07_RightInode_0]
      simp [b_flotsamref07_RightInode_0, r_flotsamref07_RightInode_0, v1, v2, v3, v4]
      rw [l_flotsamref07_RightInode_1, M_loop, ← l_flotsamref07_RightInode_1]
      by_cases p1 : b < 1
      · simp [b_flotsamref07_RightInode_1, hN, rinB, odd24, p0, q0, p1]
      · by_cases q1 : 24 < b
        · simp [b_flotsamref07_RightInode_1, hN, rinB, odd24, p0, q0, p1, q1]
        · simp [b_flotsamref07_RightInode_1, hN, p1, q1]
          rw [l_flotsamref07_RightInode_0, M_loop, ← l_flotsamref07_RightInode_0]
          by_cases e01 : a = b
          · simp [b_flotsamref07_RightInode_0, p0, q0, p1, q1, e01, rinB, odd24]
          · simp [b_flotsamref07_RightInode_0, e01, v1, v2, v3, v4]
            rw [l_flotsamref07_RightInode_0, M_loop, ← l_flotsamref07_RightInode_0]
            simp [b_flotsamref07_RightInode_0, r_flotsamref07_RightInode_0, v1, v2, v3, v4]
            rw [l_flotsamref07_RightInode_1, M_loop, ← l_flotsamref07_RightInode_1]
            by_cases z2 : c = 0
            · simp [b_flotsamref07_RightInode_1, r_flotsamref07_RightInode_0, hN, v1, v2, v3, v4, z2]
              rw [l_flotsamref07_RightInode_1, M_loop, ← l_flotsamref07_RightInode_1]
              by_cases z3 : d = 0
              · simp [b_flotsamref07_RightInode_1, r_flotsamref07_RightInode_0, hN, v1, v2, v3, v4, z3]
                rw [l_flotsamref07_RightInode_1, M_loop, ← l_flotsamref07_RightInode_1]
                simp [b_flotsamref07_RightInode_1, r_flotsamref07_RightInode_1, v1, v2, v3, v4]
                simp [rinB, odd24, p0, q0, p1, q1, e01, z2, z3]
              · simp [b_flotsamref07_RightInode_1, hN, rinB, odd24, p0, q0, p1, q1, e01, z2, z3]
            · simp [b_flotsamref07_RightInode_1, hN, rinB, odd24, p0, q0, p1, q1, e01, z2]

theorem refR3 (s a b c d : Int) (h0 : 0 ≤ s) (h1 : s ≤ 128) (hn : (s + 31) / 32 = 3) (H : Heap) : eval tbl noExt n_flotsamref07_RightInode [.agg [iw 1, iw s, iw a, iw b, iw c, iw d]] H = some (.bool (rinB 3 [a, b, c, d]), H) := by
  have hN := Need_eq s h0 h1 []
  rw [hn] at hN
  have g0 : ¬ s < 0 := by omega
  have g1 : ¬ (128 : Int) < s := by omega
  have v1 : IntKind.i64.wrap 1 = 1 := rfl
  have v2 : IntKind.i64.wrap 2 = 2 := rfl
  have v3 : IntKind.i64.wrap 3 = 3 := rfl
  have v4 : IntKind.i64.wrap 4 = 4 := rfl
  rw [eval_M rfl rfl t_flotsamref07_RightInode rfl]
  simp [c_flotsamref07_RightInode, g0, g1]
  rw [l_flotsamref07_RightInode_1, M_loop, ← l_flotsamref07_RightInode_1]
  by_cases p0 : a < 1
  · simp [b_flotsamref07_RightInode_1, hN, rinB, odd24, p0]
  · by_cases q0 : 24 < a
    · simp [b_flotsamref07_RightInode_1, hN, rinB, odd24, p0, q0]
    · simp [b_flotsamref07_RightInode_1, hN, p0, q0]
      rw [l_flotsamref07_RightInode_0, M_loop, ← l_flotsamref07_RightInode_0]
      simp [b_flotsamref07_RightInode_0, r_flotsamref07_RightInode_0, v1, v2, v3, v4]
      rw [l_flotsamref07_RightInode_1, M_loop, ← l_flotsamref07_RightInode_1]
      by_cases p1 : b < 1
      · simp [b_flotsamref07_RightInode_1, hN, rinB, odd24, p0, q0, p1]
      · by_cases q1 : 24 < b
        · simp [b_flotsamref07_RightInode_1, hN, rinB, odd24, p0, q0, p1, q1]
        · simp [b_flotsamref07_RightInode_1, hN, p1, q1]
          rw [l_flotsamref07_RightInode_0, M_loop, ← l_flotsamref07_RightInode_0]
          by_cases e01 : a = b
          · simp [b_flotsamref07_RightInode_0, p0, q0, p1, q1, e01, rinB, odd24]
          · simp [b_flotsamref07_RightInode_0, e01, v1, v2, v3, v4]
            rw [l_flotsamref07_RightInode_0, M_loop, ← l_flotsamref07_RightInode_0]
            simp [b_flotsamref07_RightInode_0, r_flotsamref07_RightInode_0, v1, v2, v3, v4]
            rw [l_flotsamref07_RightInode_1, M_loop, ← l_flotsamref07_RightInode_1]
            by_cases p2 : c < 1
            · simp [b_flotsamref07_RightInode_1, hN, rinB, odd24, p0, q0, p1, q1, e01, p2]
            · by_cases q2 : 24 < c
              · simp [b_flotsamref07_RightInode_1, hN, rinB, odd24, p0, q0, p1, q1, e01, p2, q2]
              · simp [b_flotsamref07_RightInode_1, hN, p2, q2]
                rw [l_flotsamref07_RightInode_0, M_loop, ← l_flotsamref07_RightInode_0]
                by_cases e02 : a = c
                · simp [b_flotsamref07_RightInode_0, p0, q0, p1, q1, e01, p2, q2, e02, rinB, odd24]
                · simp [b_flotsamref07_RightInode_0, e02, v1, v2, v3, v4]
                  rw [l_flotsamref07_RightInode_0, M_loop, ← l_flotsamref07_RightInode_0]
                  by_cases e12 : b = c
                  · simp [b_flotsamref07_RightInode_0, p0, q0, p1, q1, e01, p2, q2, e02, e12, rinB, odd24]
                  · simp [b_flotsamref07_RightInode_0, e12, v1, v2, v3, v4]
                    rw [l_flotsamref07_RightInode_0, M_loop, ← l_flotsamref07_RightInode_0]
                    simp [b_flotsamref07_RightInode_0, r_flotsamref07_RightInode_0, v1, v2, v3, v4]
                    rw [l_flotsamref07_RightInode_1, M_loop, ← l_flotsamref07_RightInode_1]
                    by_cases z3 : d = 0
                    · simp [b_flotsamref07_RightInode_1, r_flotsamref07_RightInode_0, hN, v1, v2, v3, v4, z3]
                      rw [l_flotsamref07_RightInode_1, M_loop, ← l_flotsamref07_RightInode_1]
                      simp [b_flotsamref07_RightInode_1, r_flotsamref07_RightInode_1, v1, v2, v3, v4]
                      simp [rinB, odd24, p0, q0, p1, q1, e01, p2, q2, e02, e12, z3]
                    · simp [b_flotsamref07_RightInode_1, hN, rinB, odd24, p0, q0, p1, q1, e01, p2, q2, e02, e12, z3]

theorem refR4 (s a b c d : Int) (h0 : 0 ≤ s) (h1 : s ≤ 128) (hn : (s + 31) / 32 = 4) (H : Heap) : eval tbl noExt n_flotsamref07_RightInode [.agg [iw 1, iw s, iw a, iw b, iw c, iw d]] H = some (.bool (rinB 4 [a, b, c, d]), H) := by
  have hN := Need_eq s h0 h1 []
  rw [hn] at hN
  have g0 : ¬ s < 0 := by omega
  have g1 : ¬ (128 : Int) < s := by omega
  have v1 : IntKind.i64.wrap 1 = 1 := rfl
  have v2 : IntKind.i64.wrap 2 = 2 := rfl
  have v3 : IntKind.i64.wrap 3 = 3 := rfl
  have v4 : IntKind.i64.wrap 4 = 4 := rfl
  rw [eval_M rfl rfl t_flotsamref07_RightInode rfl]
  simp [c_flotsamref07_RightInode, g0, g1]
  rw [l_flotsamref07_RightInode_1, M_loop, ← l_flotsamref07_RightInode_1]
  by_cases p0 : a < 1
  · simp [b_flotsamref07_RightInode_1, hN, rinB, odd24, p0]
  · by_cases q0 : 24 < a
    · simp [b_flotsamref07_RightInode_1, hN, rinB, odd24, p0, q0]
    · simp [b_flotsamref07_RightInode_1, hN, p0, q0]
      rw [l_flotsamref07_RightInode_0, M_loop, ← l_flotsamref07_RightInode_0]
      simp [b_flotsamref07_RightInode_0, r_flotsamref07_RightInode_0, v1, v2, v3, v4]
      rw [l_flotsamref07_RightInode_1, M_loop, ← l_flotsamref07_RightInode_1]
      by_cases p1 : b < 1
      · simp [b_flotsamref07_RightInode_1, hN, rinB, odd24, p0, q0, p1]
      · by_cases q1 : 24 < b
        · simp [b_flotsamref07_RightInode_1, hN, rinB, odd24, p0, q0, p1, q1]
        · simp [b_flotsamref07_RightInode_1, hN, p1, q1]
          rw [l_flotsamref07_RightInode_0, M_loop, ← l_flotsamref07_RightInode_0]
          by_cases e01 : a = b
          · simp [b_flotsamref07_RightInode_0, p0, q0, p1, q1, e01, rinB, odd24]
          · simp [b_flotsamref07_RightInode_0, e01, v1, v2, v3, v4]
            rw [l_flotsamref07_RightInode_0, M_loop, ← l_flotsamref07_RightInode_0]
            simp [b_flotsamref07_RightInode_0, r_flotsamref07_RightInode_0, v1, v2, v3, v4]
            rw [l_flotsamref07_RightInode_1, M_loop, ← l_flotsamref07_RightInode_1]
            by_cases p2 : c < 1
            · simp [b_flotsamref07_RightInode_1, hN, rinB, odd24, p0, q0, p1, q1, e01, p2]
            · by_cases q2 : 24 < c
              · simp [b_flotsamref07_RightInode_1, hN, rinB, odd24, p0, q0, p1, q1, e01, p2, q2]
              · simp [b_flotsamref07_RightInode_1, hN, p2, q2]
                rw [l_flotsamref07_RightInode_0, M_loop, ← l_flotsamref07_RightInode_0]
                by_cases e02 : a = c
                · simp [b_flotsamref07_RightInode_0, p0, q0, p1, q1, e01, p2, q2, e02, rinB, odd24]
                · simp [b_flotsamref07_RightInode_0, e02, v1, v2, v3, v4]
                  rw [l_flotsamref07_RightInode_0, M_loop, ← l_flotsamref07_RightInode_0]
                  by_cases e12 : b = c
                  · simp [b_flotsamref07_RightInode_0, p0, q0, p1, q1, e01, p2, q2, e02, e12, rinB, odd24]
                  · simp [b_flotsamref07_RightInode_0, e12, v1, v2, v3, v4]
                    rw [l_flotsamref07_RightInode_0, M_loop, ← l_flotsamref07_RightInode_0]
                    simp [b_flotsamref07_RightInode_0, r_flotsamref07_RightInode_0, v1, v2, v3, v4]
                    rw [l_flotsamref07_RightInode_1, M_loop, ← l_flotsamref07_RightInode_1]
                    by_cases p3 : d < 1
                    · simp [b_flotsamref07_RightInode_1, hN, rinB, odd24, p0, q0, p1, q1, e01, p2, q2, e02, e12, p3]
                    · by_cases q3 : 24 < d
                      · simp [b_flotsamref07_RightInode_1, hN, rinB, odd24, p0, q0, p1, q1, e01, p2, q2, e02, e12, p3, q3]
                      · simp [b_flotsamref07_RightInode_1, hN, p3, q3]
                        rw [l_flotsamref07_RightInode_0, M_loop, ← l_flotsamref07_RightInode_0]
                        by_cases e03 : a = d
                        · simp [b_flotsamref07_RightInode_0, p0, q0, p1, q1, e01, p2, q2, e02, e12, p3, q3, e03, rinB, odd24]
                        · simp [b_flotsamref07_RightInode_0, e03, v1, v2, v3, v4]
                          rw [l_flotsamref07_RightInode_0, M_loop, ← l_flotsamref07_RightInode_0]
                          by_cases e13 : b = d
                          · simp [b_flotsamref07_RightInode_0, p0, q0, p1, q1, e01, p2, q2, e02, e12, p3, q3, e03, e13, rinB, odd24]
                          · simp [b_flotsamref07_RightInode_0, e13, v1, v2, v3, v4]
                            rw [l_flotsamref07_RightInode_0, M_loop, ← l_flotsamref07_RightInode_0]
                            by_cases e23 : c = d
                            · simp [b_flotsamref07_RightInode_0, p0, q0, p1, q1, e01, p2, q2, e02, e12, p3, q3, e03, e13, e23, rinB, odd24]
                            · simp [b_flotsamref07_RightInode_0, e23, v1, v2, v3, v4]
                              rw [l_flotsamref07_RightInode_0, M_loop, ← l_flotsamref07_RightInode_0]
                              simp [b_flotsamref07_RightInode_0, r_flotsamref07_RightInode_0, v1, v2, v3, v4]
                              rw [l_flotsamref07_RightInode_1, M_loop, ← l_flotsamref07_RightInode_1]
                              simp [b_flotsamref07_RightInode_1, r_flotsamref07_RightInode_1, v1, v2, v3, v4]
                              simp [rinB, odd24, p0, q0, p1, q1, e01, p2, q2, e02, e12, p3, q3, e03, e13, e23]

theorem refRightInode_eq (k s a b c d : Int) (H : Heap) : eval tbl noExt n_flotsamref07_RightInode [.agg [iw k, iw s, iw a, iw b, iw c, iw d]] H = some (.bool (inoOK k s a b c d), H) := by
  unfold inoOK
  by_cases h : k = 0 ∨ k = 2
  · rw [if_pos h, eval_M rfl rfl t_flotsamref07_RightInode rfl]
    rcases h with h | h
    · subst h
      by_cases hs : s = 0
      · simp [c_flotsamref07_RightInode, hs, eqCells, Bool.and_assoc]
      · simp [c_flotsamref07_RightInode, hs, eqCells, Bool.and_assoc]
    · subst h
      by_cases hs : s = 0
      · simp [c_flotsamref07_RightInode, hs, eqCells, Bool.and_assoc]
      · simp [c_flotsamref07_RightInode, hs, eqCells, Bool.and_assoc]
  · rw [if_neg h]
    by_cases h1 : k = 1
    · subst h1
      rw [if_pos rfl]
      by_cases hs : s < 0 ∨ 128 < s
      · rw [if_pos hs, eval_M rfl rfl t_flotsamref07_RightInode rfl]
        by_cases g : s < 0
        · simp [c_flotsamref07_RightInode, g]
        · have g2 : (128 : Int) < s := by omega
          simp [c_flotsamref07_RightInode, g, g2]
      · rw [if_neg hs]
        have h : (s + 31) / 32 = 0 ∨ (s + 31) / 32 = 1 ∨ (s + 31) / 32 = 2 ∨ (s + 31) / 32 = 3 ∨ (s + 31) / 32 = 4 := by omega
        rcases h with h | h | h | h | h <;> rw [h]
        · exact refR0 s a b c d (by omega) (by omega) h H
        · exact refR1 s a b c d (by omega) (by omega) h H
        · exact refR2 s a b c d (by omega) (by omega) h H
        · exact refR3 s a b c d (by omega) (by omega) h H
        · exact refR4 s a b c d (by omega) (by omega) h H
    · rw [if_neg h1, eval_M rfl rfl t_flotsamref07_RightInode rfl]
      have e0 : k ≠ 0 := fun e => h (.inl e)
      have e2 : k ≠ 2 := fun e => h (.inr e)
      simp [c_flotsamref07_RightInode, e0, e2, h1]

end Go.AM.Spec
