/-
  The parts of this proof that speak of the functions one by one.
-/
import Derived.Test.YtbgblfbbeamleaaGreatDoorExec
import Derived.Test.YtbgblfbbeamleaaGreatDoorSpc
import Derived.Test.YtbgblfbbeamleaaGreatDoorSpecAk
namespace Go.AM

def runM (M : CallF) (tbl : Tbl) (ext : Ext) : Nat → CallF
  | 0, _, _, _ => none
  | n + 1, f, args, H => match M f args H with
    | some r => some r
    | none => runF tbl ext (execC (runM M tbl ext n) n) f args H

theorem runM_ok {M : CallF} {tbl : Tbl} {ext : Ext} (hM : ∀ f a H r, M f a H = some r → eval tbl ext f a H = some r) : ∀ n f a H r, runM M tbl ext n f a H = some r → eval tbl ext f a H = some r
  | 0, _, _, _, _, h => by cases h
  | n + 1, f, a, H, r, h => by
    unfold runM at h
    split at h
    · cases h; exact hM _ _ _ _ ‹_›
    · rw [eval_eq]
      exact (runF_cn tbl ext f a H).mono _ _ (fun a φ H r e => (exec_iff _ _ _ _ _).2 ⟨n, exec_mono (fun f vs H r e => runM_ok hM n f vs H r e) (Nat.le_refl _) a e⟩) _ h

/-- Answers over no memory. -/
def memo : List (Nat × List V × V × Heap) → CallF
  | [], _, _, _ => none
  | (g, vs, r) :: l, f, args, H => if f = g ∧ H.isEmpty = true ∧ V.eqbL args vs = true then some r else memo l f args H

theorem memo_ok {tbl : Tbl} {ext : Ext} : ∀ {l : List (Nat × List V × V × Heap)}, (∀ x ∈ l, eval tbl ext x.1 x.2.1 [] = some x.2.2) → ∀ f a H r, memo l f a H = some r → eval tbl ext f a H = some r
  | [], _, _, _, _, _, h => by cases h
  | (g, vs, q) :: l, hl, f, a, H, r, h => by
    unfold memo at h
    split at h
    · rename_i hc
      obtain ⟨rfl, h1, h2⟩ := hc
      cases h
      rw [List.isEmpty_iff.1 h1, V.eqbL_eq h2]
      exact hl (f, vs, q) (by simp)
    · exact memo_ok (fun x hx => hl x (by simp [hx])) f a H r h

def ansB (o : Option (V × Heap)) (r : V) : Bool := match o with
  | some (v, _) => V.eqb v r
  | none => false

theorem ans_of {tbl : Tbl} {ext : Ext} {f : Nat} {a : List V} {r : V} (n : Nat) (h : ansB (run tbl ext n f a []) r = true) : ∃ K, eval tbl ext f a [] = some (r, K) := by
  unfold ansB at h
  split at h
  · rename_i v K e
    exact ⟨K, by rw [← V.eqb_eq h]; exact (eval_iff _ _ _ _ _ _).2 ⟨n, e⟩⟩
  · cases h

end Go.AM

namespace Go.AM.Spec
set_option maxRecDepth 1000000

def st41 : List V := [.int .i64 11, .str [], .int .i64 0, .sl 4 [], .sl 7 [], .sl 7 [], .bool false]
def pr41 : V := .agg [.sl 2 [], .sl 7 [st41], .sl 7 [], .sl 5 []]
def no41 : V := .agg [.sl 2 [], .sl 7 [], .sl 7 [], .sl 5 []]
def ev41 : List V := [.int .i64 3, .int .i64 0] ++ List.replicate 32 (.int .u8 0) ++ [.int .i64 0, .int .i64 0, .int .i64 0, .sl 2 []]
def n41 (n : Int) : V := .int .i64 n
def ta41 : V := .agg [.sl 38 [ev41], .sl 5 [[n41 0, n41 11, n41 0, n41 1, n41 0]], n41 0, n41 4]
def tb41 : V := .agg [.sl 38 [], .sl 5 [], n41 10, n41 0]
def tc41 : V := .agg [.sl 38 [], .sl 5 [], n41 0, n41 5]
def mu41 : V := .tup [.sl 15 [[n41 4, n41 0, n41 0, n41 0, n41 0, n41 0, n41 0, n41 0, n41 0, n41 0, n41 1, .sl 2 [], .sl 7 [], .sl 7 [], .sl 5 []]], n41 0]

theorem of_a : ∃ K, eval tbl noExt (wNo n_trace_Of) [pr41, n41 5, .sl 1 []] [] = some (ta41, K) := ans_of 100 (by kernel_rfl)
theorem of_b : ∃ K, eval tbl noExt (wNo n_trace_Of) [pr41, n41 0, .sl 1 []] [] = some (tb41, K) := ans_of 100 (by kernel_rfl)
theorem of_c : ∃ K, eval tbl noExt (wNo n_trace_Of) [no41, n41 5, .sl 1 []] [] = some (tc41, K) := ans_of 100 (by kernel_rfl)
theorem of_p : ∃ K, eval tbl noExt n_bound_Check [pr41] [] = some (.agg [n41 0, n41 0], K) := ans_of 100 (by kernel_rfl)
theorem of_n : ∃ K, eval tbl noExt n_bound_Check [no41] [] = some (.agg [n41 0, n41 0], K) := ans_of 100 (by kernel_rfl)
theorem of_m : ∃ K, eval tbl noExt n_mutants_All [pr41, .int .u16 255] [] = some (mu41, K) := ans_of 100 (by kernel_rfl)

end Go.AM.Spec

namespace Go.AM.Spec
set_option maxRecDepth 1000000

theorem knows41 : eval tbl noExt n_flotsamlaw41_knows [] [] = some (.bool true, []) := by
  obtain ⟨Ka, ha⟩ := of_a
  obtain ⟨Kb, hb⟩ := of_b
  obtain ⟨Kc, hc⟩ := of_c
  obtain ⟨Kp, hp⟩ := of_p
  obtain ⟨Kn, hn⟩ := of_n
  obtain ⟨Km, hm⟩ := of_m
  refine runM_ok (M := memo [(wNo n_trace_Of, [pr41, n41 5, .sl 1 []], ta41, Ka), (wNo n_trace_Of, [pr41, n41 0, .sl 1 []], tb41, Kb), (wNo n_trace_Of, [no41, n41 5, .sl 1 []], tc41, Kc),
    (n_bound_Check, [pr41], .agg [n41 0, n41 0], Kp), (n_bound_Check, [no41], .agg [n41 0, n41 0], Kn), (n_mutants_All, [pr41, .int .u16 255], mu41, Km)]) (memo_ok (fun x hx => ?_)) 60 _ _ _ _ (by kernel_rfl)
  simp only [List.mem_cons, List.not_mem_nil, or_false] at hx
  rcases hx with rfl | rfl | rfl | rfl | rfl | rfl
  · exact ha
  · exact hb
  · exact hc
  · exact hp
  · exact hn
  · exact hm

end Go.AM.Spec

namespace Go.AM.Spec
set_option linter.unusedVariables false
set_option linter.unusedSimpArgs false
set_option maxHeartbeats 4000000
set_option maxRecDepth 10000

theorem AlikeSame_eq (a : Tr) (ha : a.ok) (b : Tr) (hb : b.ok) : ∃ H', eval tbl noExt n_flotsamlaw41_AlikeSame [.agg a.cells, .agg b.cells] [] = some (.bool true, H') := by
  obtain ⟨l1, h1⟩ := Log_ex a.log ha.2 ha.1
  obtain ⟨l2, h2⟩ := Log_ex b.log hb.2 hb.1
  have hk := knows41
  have hs := Same_eq a b ha hb
  have hr := refSame_eq a b ha hb
  have t1 := Trace_eq a
  have t2 := Trace_eq b
  refine ⟨[], ?_⟩
  rw [eval_M rfl rfl t_flotsamlaw41_AlikeSame rfl]
  simp only [Tr.cells] at hs hr t1 t2 ⊢
  cases l1 with
  | false => simp [c_flotsamlaw41_AlikeSame, get0, get1, h1, hk]
  | true =>
    cases l2 with
    | false => simp [c_flotsamlaw41_AlikeSame, get0, get1, h1, h2, hk]
    | true =>
      by_cases c1 : (40 : Int) < a.steps.length
      · simp [c_flotsamlaw41_AlikeSame, get0, get1, h1, h2, hk, c1]
      · by_cases c2 : (40 : Int) < b.steps.length
        · simp [c_flotsamlaw41_AlikeSame, get0, get1, h1, h2, hk, c1, c2]
        · have t1 := t1 (by omega)
          have t2 := t2 (by omega)
          simp [c_flotsamlaw41_AlikeSame, get0, get1, h1, h2, hk, c1, c2, t1, t2, hs, hr]

end Go.AM.Spec
