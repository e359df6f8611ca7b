/-
  The law SiteNames, as what the evaluator answers.
-/
import Derived.Test.YtjbedlhjjhnciaaDoorSiteH
namespace Go.AM.Spec
set_option linter.unusedVariables false
set_option linter.unusedSimpArgs false
set_option maxHeartbeats 1000000
set_option maxRecDepth 10000

theorem knows25 : eval tbl noExt n_flotsamlaw25_knows [] [] = some (.bool true, []) := (eval_iff _ _ _ _ _ _).2 ⟨400, by kernel_rfl⟩

theorem eq11 (xs ys : List Int) (hx : xs.length = 11) (hy : ys.length = 11) : eqCells [.int .i64, .int .i64, .int .i64, .int .i64, .int .i64, .int .i64, .int .i64, .int .i64, .int .i64, .int .i64, .int .i64] (xs.map iv) (ys.map iv) = some (decide (xs = ys)) := eqCells_ints 11 .i64 xs ys hx hy

theorem Si.eq_self (s : Si) (ok : s.ok) : eqCells [.int .i64, .int .i64, .int .i64, .int .i64, .int .i64, .int .i64, .int .i64, .int .i64, .int .i64, .int .i64, .int .i64] s.cells s.cells = some true := by
  have h8 : s.way.length = 8 := ok
  have e : s.cells = (s.kind :: s.part :: (s.way ++ [s.deep])).map iv := by simp [Si.cells]
  rw [e, eq11 _ _ (by simp [h8]) (by simp [h8])]
  simp

theorem readSi_ok (t : List UInt8) : (readSi t).1.ok := by
  unfold readSi
  dsimp only
  split
  · rfl
  · generalize hX : readNums _ _ _ = X
    cases X with
    | none => rfl
    | some s =>
      have := (readNums_ok _ _ _ _ (by rfl) hX).1
      unfold afterNums
      split
      · rfl
      · rename_i h; cases h; split
        · exact this
        · rfl

theorem SiteNames_eq (s : Si) (ok : s.ok) (t : List UInt8) : ∃ H', eval tbl noExt n_flotsamlaw25_SiteNames [.agg s.cells, .str t] [] = some (.bool true, H') := by
  refine ⟨[], ?_⟩
  have hk := knows25
  rw [eval_M rfl rfl t_flotsamlaw25_SiteNames rfl]
  by_cases hl : 200 < t.length
  · have hl' : (200 : Int) < t.length := by omega
    simp [c_flotsamlaw25_SiteNames, hl', hk]
  · have hl' : ¬ (200 : Int) < t.length := by omega
    have hN := fun K => Name_eq s ok K
    have hN2 := fun K => refNameS_eq s ok K
    have hR := fun K => Read_eq t (by omega) K
    have hR2 := fun K => refReadS_eq t (by omega) K
    have hW := fun K => Word_eq s.kind K
    have hW2 := fun K => refWord_eq s.kind K
    obtain ⟨r, hr⟩ : ∃ r, r = (readSi t).1 := ⟨_, rfl⟩
    have okr : r.ok := by rw [hr]; exact readSi_ok t
    rw [← hr] at hR hR2
    have hst := Si.strip (s := s)
    have htk := Si.take ok
    have hun := fun n => Si.under (s := s) n
    have hc := Si.len ok
    have hstr := Si.strip (s := r)
    have htkr := Si.take okr
    have hunr := fun n => Si.under (s := r) n
    have hcr := Si.len okr
    have honer := Si.one (s := r)
    have hselfr := h11 r okr
    have heq := Si.eq_self r okr
    have g0 : ∀ h : 0 < s.cells.length, s.cells[0] = iv s.kind := fun h => rfl
    have hc0 := Si.c0 (s := s)
    simp [c_flotsamlaw25_SiteNames, hl', hk, hN, hN2, hR, hR2, hW, hW2, hst, htk, hun, hc, hstr, htkr, hunr, hcr, honer, hselfr, heq, hc0, g0]

end Go.AM.Spec
