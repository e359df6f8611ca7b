/-
  The interpreter without fuel: 'eval' is the limit of 'run', 'exec' that of 'execC', and each obeys the plain equations of its code. Proved: the equations, and that what 'eval' answers 'run' answers with fuel enough.
-/
import Derived.Test.YtbgblfbbeamleaaGreatDoorAm
import Derived.WalkKit
namespace Go.AM
set_option linter.unusedVariables false

section
variable {α : Type}

open Classical in
noncomputable def Lim (g : Nat → Option α) : Option α := if h : ∃ n x, g n = some x then g h.choose else none

theorem up {g : Nat → Option α} (hm : ∀ n x, g n = some x → g (n + 1) = some x) {n m : Nat} (h : n ≤ m) {x : α} (e : g n = some x) : g m = some x := by
  induction h with
  | refl => exact e
  | step _ ih => exact hm _ _ ih

theorem lim_iff {g : Nat → Option α} (hm : ∀ n x, g n = some x → g (n + 1) = some x) (x : α) : Lim g = some x ↔ ∃ n, g n = some x := by
  unfold Lim
  by_cases h : ∃ n x, g n = some x
  · rw [dif_pos h]
    obtain ⟨y, hy⟩ := h.choose_spec
    refine ⟨fun e => ⟨_, e⟩, fun ⟨n, e⟩ => ?_⟩
    rw [hy]
    have h1 := up hm (Nat.le_max_left h.choose n) hy
    have h2 := up hm (Nat.le_max_right h.choose n) e
    rw [h1] at h2; exact h2
  · rw [dif_neg h]
    exact ⟨fun e => (by cases e), fun ⟨n, e⟩ => (h ⟨n, x, e⟩).elim⟩

theorem lim_const (o : Option α) : Lim (fun _ => o) = o := by
  apply Option.ext
  intro x
  rw [lim_iff (g := fun _ => o) (fun _ _ h => h)]
  exact ⟨fun ⟨_, h⟩ => h, fun h => ⟨0, h⟩⟩

theorem opt_ext {a b : Option α} (h : ∀ x, a = some x ↔ b = some x) : a = b := by
  apply Option.ext
  intro x
  exact h x
end

def Le (c c' : CallF) : Prop := ∀ f vs H r, c f vs H = some r → c' f vs H = some r

theorem Le.refl (c : CallF) : Le c c := fun _ _ _ _ h => h

variable {c c' : CallF}

theorem callCalm_mono (h : Le c c') {f : Nat} {vs : List V} {r : V} (e : callCalm c f vs = some r) : callCalm c' f vs = some r := by
  unfold callCalm at e ⊢
  split at e
  · rename_i hu
    rw [if_pos hu]
    split at e
    · rename_i hs
      rw [h _ _ _ _ hs]; exact e
    · cases e
  · cases e

theorem step_mono (h : Le c c') (φ : Fr) (H : Heap) (op : AOp) {r : V × Fr × Heap} (e : stepA c φ H op = some r) : stepA c' φ H op = some r := by
  cases op with
  | call f args =>
    simp only [stepA, Option.map_eq_some_iff] at e ⊢
    obtain ⟨y, h1, h2⟩ := e
    exact ⟨y, h _ _ _ _ h1, h2⟩
  | callx f args =>
    simp only [stepA, callOwn, Option.map_map, Option.map_eq_some_iff] at e ⊢
    obtain ⟨y, h1, h2⟩ := e
    exact ⟨y, h _ _ _ _ h1, h2⟩
  | callh f args r =>
    simp only [stepA] at e ⊢
    split at e <;> try cases e
    rename_i e1
    split at e <;> try cases e
    rename_i e2
    split at e <;> try cases e
    rename_i h1
    simp only [h _ _ _ _ h1]
    exact e
  | callvh fv args r =>
    simp only [stepA] at e ⊢
    split at e <;> try cases e
    split at e <;> try cases e
    split at e <;> try cases e
    rename_i h1
    simp only [h _ _ _ _ h1]
    exact e
  | callv fv args =>
    simp only [stepA] at e ⊢
    split at e
    · simp only [Option.map_eq_some_iff] at e ⊢
      obtain ⟨y, h1, h2⟩ := e
      exact ⟨y, h _ _ _ _ h1, h2⟩
    · cases e
  | callc f args =>
    simp only [stepA, Option.map_eq_some_iff] at e ⊢
    obtain ⟨y, h1, h2⟩ := e
    exact ⟨y, callCalm_mono h h1, h2⟩
  | callvc fv args =>
    simp only [stepA] at e ⊢
    split at e
    · simp only [Option.map_eq_some_iff] at e ⊢
      obtain ⟨y, h1, h2⟩ := e
      exact ⟨y, callCalm_mono h h1, h2⟩
    · cases e
  | callk f args =>
    simp only [stepA, Option.map_eq_some_iff] at e ⊢
    obtain ⟨y, h1, h2⟩ := e
    exact ⟨y, h _ _ _ _ h1, h2⟩
  | callvk fv args =>
    simp only [stepA] at e ⊢
    split at e
    · simp only [Option.map_eq_some_iff] at e ⊢
      obtain ⟨y, h1, h2⟩ := e
      exact ⟨y, h _ _ _ _ h1, h2⟩
    · cases e
  | callck f args =>
    simp only [stepA, Option.map_eq_some_iff] at e ⊢
    obtain ⟨y, h1, h2⟩ := e
    exact ⟨y, callCalm_mono h h1, h2⟩
  | callb f args =>
    simp only [stepA] at e ⊢
    split at e <;> try cases e
    split at e <;> try cases e
    rename_i h1
    simp only [callCalm_mono h h1]
    exact e
  | callr f args =>
    simp only [stepA, Option.map_eq_some_iff] at e ⊢
    obtain ⟨y, h1, h2⟩ := e
    refine ⟨y, ?_, h2⟩
    unfold callSame at h1 ⊢
    split at h1 <;> try cases h1
    rename_i hs
    rw [h _ _ _ _ hs]
    exact h1
  | _ => exact e

theorem stepO_mono (h : Le c c') (o : AOper) (φ : Fr) (H : Heap) {r : Fr × Heap} (e : stepO c o φ H = some r) : stepO c' o φ H = some r := by
  unfold stepO at e ⊢
  split at e
  · rename_i hw
    split at e
    · rename_i hs
      rw [step_mono h φ H o.op hs]; exact e
    · cases e
  · exact e
  · cases e

theorem runOps_mono (h : Le c c') (ops : List AOper) : ∀ (φ : Fr) (H : Heap) {r : Fr × Heap}, runOps c ops φ H = some r → runOps c' ops φ H = some r := by
  induction ops with
  | nil => intro φ H r e; exact e
  | cons o os ih =>
    intro φ H r e
    unfold runOps at e ⊢
    split at e
    · rename_i hs
      rw [stepO_mono h o φ H hs]; exact ih _ _ e
    · cases e

theorem iter_mono {b b' : Fr → Heap → Option (AExit × Fr × Heap)} {keep : List Nat} (h : ∀ φ H r, b φ H = some r → b' φ H = some r) : ∀ {n m : Nat}, n ≤ m → ∀ {φ H r}, iter b keep n φ H = some r → iter b' keep m φ H = some r := by
  intro n
  induction n with
  | zero => intro m _ φ H r e; cases e
  | succ n ih =>
    intro m hm φ H r e
    obtain ⟨m, rfl⟩ : ∃ k, m = k + 1 := ⟨m - 1, by omega⟩
    unfold iter at e ⊢
    split at e
    · rename_i hb
      rw [h _ _ _ hb]
      exact ih (by omega) e
    · rename_i hb
      rw [h _ _ _ e]
      split
      · rename_i hx
        cases hx
        exact (hb _ _ e).elim
      · rfl

theorem runRfn_mono (h : Le c c') {φ : Fr} {H : Heap} {g : AX} {keep : List Nat} {lbl : Nat} {ps : List Nat} {r : AExit × Fr × Heap} (e : runRfn c φ H g keep lbl ps = some r) : runRfn c' φ H g keep lbl ps = some r := by
  unfold runRfn at e ⊢
  split at e
  · split at e
    · rename_i hs
      rw [h _ _ _ _ hs]; exact e
    · cases e
  · cases e

theorem exec_mono (h : Le c c') {n m : Nat} (hm : n ≤ m) (a : AC) : ∀ {φ H r}, execC c n a φ H = some r → execC c' m a φ H = some r := by
  induction a with
  | reg ops =>
    intro φ H r e
    unfold execC at e ⊢
    split at e
    · rename_i hs
      rw [runOps_mono h ops _ _ hs]; exact e
    · cases e
  | drw cert ops =>
    intro φ H r e
    unfold execC at e ⊢
    split at e
    · rename_i hs
      rw [runOps_mono h ops _ _ hs]; exact e
    · cases e
  | seq x y ihx ihy =>
    intro φ H r e
    unfold execC at e ⊢
    split at e
    · rename_i hs
      rw [ihx hs]; exact ihy e
    · rename_i hb
      rw [ihx e]
      split
      · rename_i hx
        cases hx
        exact (hb _ _ e).elim
      · rfl
  | cond x a b iha ihb =>
    intro φ H r e
    unfold execC at e ⊢
    split at e
    · exact iha e
    · exact ihb e
    · cases e
  | block id b ih =>
    intro φ H r e
    unfold execC at e ⊢
    split at e
    · rename_i hs
      rw [ih hs]; exact e
    · rename_i hb
      rw [ih e]
      split
      · rename_i hx
        cases hx
        exact (hb _ _ _ e).elim
      · rfl
  | loop keep b ih =>
    intro φ H r e
    unfold execC at e ⊢
    exact iter_mono (fun _ _ _ => ih) hm e
  | rfn g keep lbl ps x y ihx ihy => intro φ H r e; exact runRfn_mono h e
  | _ => intro φ H r e; exact e

def LeX (x x' : ExF) : Prop := ∀ a φ H r, x a φ H = some r → x' a φ H = some r

/-! What asks a runner of code finitely often: monotone, continuous. -/

structure Cn {α : Type} (F : ExF → Option α) : Prop where
  mono : ∀ x x', LeX x x' → ∀ r, F x = some r → F x' = some r
  cont : ∀ (X : Nat → ExF) (K : ExF), (∀ n m, n ≤ m → LeX (X n) (X m)) → (∀ a φ H r, K a φ H = some r → ∃ n, X n a φ H = some r) → ∀ r, F K = some r → ∃ n, F (X n) = some r

theorem Cn.const {α : Type} (o : Option α) : Cn fun _ => o := ⟨fun _ _ _ _ h => h, fun _ _ _ _ _ h => ⟨0, h⟩⟩
theorem Cn.ask (a : AC) (φ : Fr) (H : Heap) : Cn fun x => x a φ H := ⟨fun _ _ h r e => h a φ H r e, fun _ _ _ hK r e => hK a φ H r e⟩
theorem Cn.bind {α β : Type} {F : ExF → Option α} {G : ExF → α → Option β} (hF : Cn F) (hG : ∀ y, Cn fun x => G x y) : Cn fun x => (F x).bind (G x) := by
  refine ⟨fun x x' h r e => ?_, fun X K hX hK r e => ?_⟩
  · rw [Option.bind_eq_some_iff] at e ⊢
    obtain ⟨y, h1, h2⟩ := e
    exact ⟨y, hF.mono _ _ h _ h1, (hG y).mono _ _ h _ h2⟩
  · rw [Option.bind_eq_some_iff] at e
    obtain ⟨y, h1, h2⟩ := e
    obtain ⟨n, h3⟩ := hF.cont X K hX hK _ h1
    obtain ⟨m, h4⟩ := (hG y).cont X K hX hK _ h2
    exact ⟨max n m, Option.bind_eq_some_iff.2 ⟨y, hF.mono _ _ (hX _ _ (Nat.le_max_left n m)) _ h3, (hG y).mono _ _ (hX _ _ (Nat.le_max_right n m)) _ h4⟩⟩

theorem fnOne_cn (tbl : Tbl) (f : Nat) (vs : List V) (H : Heap) : Cn fun x => fnOne tbl x f vs H := by
  unfold fnOne
  split
  · split
    · exact (Cn.ask _ _ _).bind fun _ => .const _
    · exact .const _
  · exact .const _

theorem dfrEnd_cn (tbl : Tbl) (g : Nat) (vs : List V) (res : List ARes) (n : Nat) (y : AExit × Fr × Heap) : Cn fun x => dfrEnd tbl x g vs res n y := by
  obtain ⟨e, φ, H⟩ := y
  cases e with
  | exit i => exact .const _
  | ret => exact (fnOne_cn tbl g vs H).bind fun _ => .const _
  | normal => exact (fnOne_cn tbl g vs H).bind fun _ => .const _

theorem dfrOps_cn (tbl : Tbl) (g : Nat) (ks : List Nat) (rest : AC) (res : List ARes) (n : Nat) (y : AExit × Fr × Heap) : Cn fun x => dfrOps tbl x g ks rest res n y := by
  obtain ⟨e, φ, H⟩ := y
  cases e with
  | exit i => exact .const _
  | ret => exact .const _
  | normal => exact (Cn.ask _ _ _).bind fun y => dfrEnd_cn tbl g _ res n y

theorem dfrPre_cn (tbl : Tbl) (c : AX) (ops : AC) (g : Nat) (ks : List Nat) (rest : AC) (res : List ARes) (n : Nat) (y : AExit × Fr × Heap) : Cn fun x => dfrPre tbl x c ops g ks rest res n y := by
  obtain ⟨e, φ, H⟩ := y
  cases e with
  | exit i => exact .const _
  | ret => exact .const _
  | normal =>
    unfold dfrPre
    dsimp only
    split
    · exact (Cn.ask _ _ _).bind fun _ => .const _
    · exact (Cn.ask _ _ _).bind fun y => dfrOps_cn tbl g ks rest res n y
    · exact .const _

theorem fnRun_cn (tbl : Tbl) (ext : Ext) (f : Nat) (vs : List V) (H : Heap) : Cn fun x => fnRun tbl ext x f vs H := by
  unfold fnRun
  split
  · exact .const _
  · split
    · split
      · split
        · exact (Cn.ask _ _ _).bind fun y => dfrPre_cn tbl _ _ _ _ _ _ _ y
        · exact (Cn.ask _ _ _).bind fun _ => .const _
      · exact .const _
    · exact .const _

theorem fnRun_mono {tbl : Tbl} {ext : Ext} {x x' : ExF} (h : LeX x x') {f : Nat} {vs : List V} {H : Heap} {r : V × Heap} (e : fnRun tbl ext x f vs H = some r) : fnRun tbl ext x' f vs H = some r :=
  (fnRun_cn tbl ext f vs H).mono _ _ h _ e

theorem Cn.congr {α : Type} {F F' : ExF → Option α} (h : Cn F) (e : ∀ x, F' x = F x) : Cn F' := by
  have : F' = F := funext e
  rw [this]; exact h

theorem bodyRound_cn (n i : Nat) (b : AC) (φ : Fr) (H : Heap) : Cn fun x => bodyRound x n i b φ H := by
  unfold bodyRound
  split
  · rename_i st p lbl ps ks vs _
    split
    · refine ((Cn.ask b φ (H.set i (some [.lrec 1 p lbl ps ks vs]))).bind (G := fun _ y => endRound n i y.1 y.2.2) fun _ => .const _).congr fun x => ?_
      cases x b φ (H.set i (some [.lrec 1 p lbl ps ks vs])) <;> rfl
    · exact .const _
  · exact .const _

/-- Where the first part of a round has come to. -/
def midRound (x : ExF) (n i : Nat) (b : AC) : AExit × Fr × Heap → Option (V × Heap)
  | (.normal, φ, H) => bodyRound x n i b φ H
  | _ => none

theorem round_cn (tbl : Tbl) (i : Nat) (vs : List V) (H : Heap) : Cn fun x => round tbl x i vs H := by
  unfold round
  split
  · rename_i st p lbl ps ks us _
    split
    · split
      · rename_i np a b res _
        refine ((Cn.ask a (ps.zip vs ++ ks.zip us) H).bind (G := fun x y => midRound x H.length i b y) fun y => ?_).congr fun x => ?_
        · obtain ⟨e, φ, H'⟩ := y
          cases e with
          | normal => exact bodyRound_cn _ _ _ _ _
          | ret => exact .const _
          | exit id => exact .const _
        · cases x a (ps.zip vs ++ ks.zip us) H with
          | none => rfl
          | some y => obtain ⟨e, φ, H⟩ := y; cases e <;> rfl
      · exact .const _
    · exact .const _
  · exact .const _

theorem wideRun_cn (tbl : Tbl) (f : Nat) (vs : List V) (H : Heap) : Cn fun x => wideRun tbl x f vs H := by
  unfold wideRun
  split
  · split
    · exact (Cn.ask _ _ _).bind fun _ => .const _
    · exact .const _
  · exact .const _

theorem runF_cn (tbl : Tbl) (ext : Ext) (f : Nat) (vs : List V) (H : Heap) : Cn fun x => runF tbl ext x f vs H := by
  unfold runF
  split
  · exact fnRun_cn tbl ext f vs H
  · split
    · exact round_cn tbl _ vs H
    · exact wideRun_cn tbl _ vs H

theorem run_mono (tbl : Tbl) (ext : Ext) : ∀ n, Le (run tbl ext n) (run tbl ext (n + 1)) := by
  intro n
  induction n with
  | zero => intro f vs H r e; cases e
  | succ n ih =>
    intro f vs H r e
    unfold run at e ⊢
    exact (runF_cn tbl ext f vs H).mono _ _ (fun a φ H r => exec_mono ih (Nat.le_succ n) a) _ e

theorem run_up (tbl : Tbl) (ext : Ext) {n m : Nat} (h : n ≤ m) : Le (run tbl ext n) (run tbl ext m) := fun f vs H r e => up (g := fun n => run tbl ext n f vs H) (fun n x e => run_mono tbl ext n f vs H x e) h e

noncomputable def eval (tbl : Tbl) (ext : Ext) : CallF := fun f vs H => Lim fun n => run tbl ext n f vs H

noncomputable def exec (call : CallF) (a : AC) (φ : Fr) (H : Heap) : Option (AExit × Fr × Heap) := Lim fun n => execC call n a φ H

theorem eval_iff (tbl : Tbl) (ext : Ext) (f : Nat) (vs : List V) (H : Heap) (r : V × Heap) : eval tbl ext f vs H = some r ↔ ∃ n, run tbl ext n f vs H = some r :=
  lim_iff (g := fun n => run tbl ext n f vs H) (fun n x e => run_mono tbl ext n f vs H x e) r

theorem exec_iff (call : CallF) (a : AC) (φ : Fr) (H : Heap) (r : AExit × Fr × Heap) : exec call a φ H = some r ↔ ∃ n, execC call n a φ H = some r :=
  lim_iff (fun n x e => exec_mono (Le.refl call) (Nat.le_succ n) a e) r

/-! Continuity: what a limit of calls answers, one of the calls answers. -/

set_option linter.unusedSectionVars false
section
variable {C : Nat → CallF} {K : CallF} (hm : ∀ {n m}, n ≤ m → Le (C n) (C m)) (hK : ∀ f vs H r, K f vs H = some r → ∃ n, C n f vs H = some r)
include hm hK

theorem callCalm_cont {f : Nat} {vs : List V} {r : V} (e : callCalm K f vs = some r) : ∃ n, callCalm (C n) f vs = some r := by
  unfold callCalm at e ⊢
  split at e
  · rename_i hu
    split at e
    · rename_i hs
      obtain ⟨n, hn⟩ := hK _ _ _ _ hs
      refine ⟨n, ?_⟩
      rw [if_pos hu, hn]; exact e
    · cases e
  · cases e

theorem step_cont (φ : Fr) (H : Heap) (op : AOp) {r : V × Fr × Heap} (e : stepA K φ H op = some r) : ∃ n, stepA (C n) φ H op = some r := by
  cases op with
  | call f args =>
    simp only [stepA, Option.map_eq_some_iff] at e ⊢
    obtain ⟨y, h1, h2⟩ := e
    obtain ⟨n, hn⟩ := hK _ _ _ _ h1
    exact ⟨n, y, hn, h2⟩
  | callv fv args =>
    simp only [stepA] at e ⊢
    split at e
    · simp only [Option.map_eq_some_iff] at e
      obtain ⟨y, h1, h2⟩ := e
      obtain ⟨n, hn⟩ := hK _ _ _ _ h1
      refine ⟨n, ?_⟩
      simp only [Option.map_eq_some_iff]
      exact ⟨y, hn, h2⟩
    · cases e
  | callx f args =>
    simp only [stepA, callOwn, Option.map_map, Option.map_eq_some_iff] at e ⊢
    obtain ⟨y, h1, h2⟩ := e
    obtain ⟨n, hn⟩ := hK _ _ _ _ h1
    exact ⟨n, y, hn, h2⟩
  | callh f args r =>
    simp only [stepA] at e ⊢
    split at e <;> try cases e
    rename_i e1
    split at e <;> try cases e
    rename_i e2
    split at e <;> try cases e
    rename_i h1
    obtain ⟨n, hn⟩ := hK _ _ _ _ h1
    refine ⟨n, ?_⟩
    simp only [hn]
    exact e
  | callvh fv args r =>
    simp only [stepA] at e ⊢
    split at e <;> try cases e
    split at e <;> try cases e
    split at e <;> try cases e
    rename_i h1
    obtain ⟨n, hn⟩ := hK _ _ _ _ h1
    refine ⟨n, ?_⟩
    simp only [hn]
    exact e
  | callc f args =>
    simp only [stepA, Option.map_eq_some_iff] at e ⊢
    obtain ⟨y, h1, h2⟩ := e
    obtain ⟨n, hn⟩ := callCalm_cont hm hK h1
    exact ⟨n, y, hn, h2⟩
  | callvc fv args =>
    simp only [stepA] at e ⊢
    split at e
    · simp only [Option.map_eq_some_iff] at e
      obtain ⟨y, h1, h2⟩ := e
      obtain ⟨n, hn⟩ := callCalm_cont hm hK h1
      refine ⟨n, ?_⟩
      simp only [Option.map_eq_some_iff]
      exact ⟨y, hn, h2⟩
    · cases e
  | callk f args =>
    simp only [stepA, Option.map_eq_some_iff] at e ⊢
    obtain ⟨y, h1, h2⟩ := e
    obtain ⟨n, hn⟩ := hK _ _ _ _ h1
    exact ⟨n, y, hn, h2⟩
  | callvk fv args =>
    simp only [stepA] at e ⊢
    split at e
    · simp only [Option.map_eq_some_iff] at e
      obtain ⟨y, h1, h2⟩ := e
      obtain ⟨n, hn⟩ := hK _ _ _ _ h1
      refine ⟨n, ?_⟩
      simp only [Option.map_eq_some_iff]
      exact ⟨y, hn, h2⟩
    · cases e
  | callck f args =>
    simp only [stepA, Option.map_eq_some_iff] at e ⊢
    obtain ⟨y, h1, h2⟩ := e
    obtain ⟨n, hn⟩ := callCalm_cont hm hK h1
    exact ⟨n, y, hn, h2⟩
  | callb f args =>
    simp only [stepA] at e ⊢
    split at e <;> try cases e
    split at e <;> try cases e
    rename_i h1
    obtain ⟨n, hn⟩ := callCalm_cont hm hK h1
    refine ⟨n, ?_⟩
    simp only [hn]
    exact e
  | callr f args =>
    simp only [stepA, Option.map_eq_some_iff] at e ⊢
    obtain ⟨y, h1, h2⟩ := e
    unfold callSame at h1
    split at h1 <;> try cases h1
    rename_i hs
    obtain ⟨n, hn⟩ := hK _ _ _ _ hs
    refine ⟨n, y, ?_, h2⟩
    unfold callSame
    rw [hn]
    exact h1
  | _ => exact ⟨0, e⟩

theorem stepO_cont (o : AOper) (φ : Fr) (H : Heap) {r : Fr × Heap} (e : stepO K o φ H = some r) : ∃ n, stepO (C n) o φ H = some r := by
  unfold stepO at e ⊢
  split at e
  · split at e
    · rename_i hs
      obtain ⟨n, hn⟩ := step_cont hm hK φ H o.op hs
      refine ⟨n, ?_⟩
      rw [hn]; exact e
    · cases e
  · exact ⟨0, e⟩
  · cases e

theorem runOps_cont (ops : List AOper) : ∀ (φ : Fr) (H : Heap) {r : Fr × Heap}, runOps K ops φ H = some r → ∃ n, runOps (C n) ops φ H = some r := by
  induction ops with
  | nil => intro φ H r e; exact ⟨0, e⟩
  | cons o os ih =>
    intro φ H r e
    unfold runOps at e
    split at e
    · rename_i hs
      obtain ⟨n, hn⟩ := stepO_cont hm hK o φ H hs
      obtain ⟨m, h2⟩ := ih _ _ e
      refine ⟨max n m, ?_⟩
      unfold runOps
      rw [stepO_mono (hm (Nat.le_max_left n m)) o φ H hn]
      exact runOps_mono (hm (Nat.le_max_right n m)) os _ _ h2
    · cases e

theorem exec_cont (fuel : Nat) (a : AC) : ∀ {φ H r}, execC K fuel a φ H = some r → ∃ n, execC (C n) fuel a φ H = some r := by
  induction a with
  | reg ops =>
    intro φ H r e
    unfold execC at e ⊢
    split at e
    · rename_i hs
      obtain ⟨n, hn⟩ := runOps_cont hm hK ops _ _ hs
      refine ⟨n, ?_⟩
      rw [hn]; exact e
    · cases e
  | drw cert ops =>
    intro φ H r e
    unfold execC at e ⊢
    split at e
    · rename_i hs
      obtain ⟨n, hn⟩ := runOps_cont hm hK ops _ _ hs
      refine ⟨n, ?_⟩
      rw [hn]; exact e
    · cases e
  | seq x y ihx ihy =>
    intro φ H r e
    unfold execC at e ⊢
    split at e
    · rename_i hs
      obtain ⟨n, hn⟩ := ihx hs
      obtain ⟨m, h2⟩ := ihy e
      refine ⟨max n m, ?_⟩
      rw [exec_mono (hm (Nat.le_max_left n m)) (Nat.le_refl _) x hn]
      exact exec_mono (hm (Nat.le_max_right n m)) (Nat.le_refl _) y h2
    · rename_i hb
      obtain ⟨n, hn⟩ := ihx e
      refine ⟨n, ?_⟩
      rw [hn]
      split
      · rename_i hx
        cases hx
        exact (hb _ _ e).elim
      · rfl
  | cond x a b iha ihb =>
    intro φ H r e
    unfold execC at e ⊢
    split at e
    · exact iha e
    · exact ihb e
    · cases e
  | block id b ih =>
    intro φ H r e
    unfold execC at e ⊢
    split at e
    · rename_i hs
      obtain ⟨n, hn⟩ := ih hs
      refine ⟨n, ?_⟩
      rw [hn]; exact e
    · rename_i hb
      obtain ⟨n, hn⟩ := ih e
      refine ⟨n, ?_⟩
      rw [hn]
      split
      · rename_i hx
        cases hx
        exact (hb _ _ _ e).elim
      · rfl
  | loop keep b ih =>
    intro φ H r e
    unfold execC at e ⊢
    have key : ∀ k φ H r, iter (execC K fuel b) keep k φ H = some r → ∃ n, iter (execC (C n) fuel b) keep k φ H = some r := by
      intro k
      induction k with
      | zero => intro φ H r e; cases e
      | succ k ihk =>
        intro φ H r e
        unfold iter at e ⊢
        split at e
        · rename_i hb
          obtain ⟨n, hn⟩ := ih hb
          obtain ⟨m, h2⟩ := ihk _ _ _ e
          refine ⟨max n m, ?_⟩
          rw [exec_mono (hm (Nat.le_max_left n m)) (Nat.le_refl _) b hn]
          exact iter_mono (fun _ _ _ h => exec_mono (hm (Nat.le_max_right n m)) (Nat.le_refl _) b h) (Nat.le_refl _) h2
        · rename_i hb
          obtain ⟨n, hn⟩ := ih e
          refine ⟨n, ?_⟩
          rw [hn]
          split
          · rename_i hx
            cases hx
            exact (hb _ _ e).elim
          · rfl
    exact key fuel φ H r e
  | rfn g keep lbl ps x y ihx ihy =>
    intro φ H r e
    unfold execC at e ⊢
    unfold runRfn at e
    split at e
    · rename_i hg
      split at e
      · rename_i hs
        obtain ⟨n, hn⟩ := hK _ _ _ _ hs
        refine ⟨n, ?_⟩
        unfold runRfn
        rw [hg]
        dsimp only
        rw [hn]; exact e
      · cases e
    · cases e
  | _ => intro φ H r e; exact ⟨0, e⟩
end

/-! The equations. -/

section
variable (call : CallF) (φ : Fr) (H : Heap)

@[simp] theorem exec_skip : exec call .skip φ H = some (.normal, φ, H) := lim_const _
@[simp] theorem exec_exit (id : Nat) : exec call (.exit id) φ H = some (.exit id, φ, H) := lim_const _
@[simp] theorem exec_ret : exec call .ret φ H = some (.ret, φ, H) := lim_const _

theorem exec_rfn (g : AX) (keep : List Nat) (lbl : Nat) (ps : List Nat) (a b : AC) : exec call (.rfn g keep lbl ps a b) φ H = runRfn call φ H g keep lbl ps := lim_const _

theorem exec_reg (ops : List AOper) : exec call (.reg ops) φ H = match runOps call ops φ H with
    | some (φ, H) => some (.normal, φ, H)
    | none => none := lim_const _

theorem exec_drw (cert : List (List Nat)) (ops : List AOper) : exec call (.drw cert ops) φ H = match runOps call ops φ H with
    | some (φ, H) => some (.normal, φ, H)
    | none => none := lim_const _

theorem exec_seq (a b : AC) : exec call (.seq a b) φ H = match exec call a φ H with
    | some (.normal, φ, H) => exec call b φ H
    | r => r := by
  apply opt_ext
  intro r
  rw [exec_iff]
  constructor
  · rintro ⟨n, e⟩
    unfold execC at e
    split at e
    · rename_i hs
      rw [(exec_iff call a φ H _).2 ⟨n, hs⟩]
      exact (exec_iff call b _ _ _).2 ⟨n, e⟩
    · rename_i hb
      rw [(exec_iff call a φ H _).2 ⟨n, e⟩]
      split
      · rename_i hx
        cases hx
        exact (hb _ _ e).elim
      · rfl
  · intro e
    split at e
    · rename_i hs
      obtain ⟨n, hn⟩ := (exec_iff call a φ H _).1 hs
      obtain ⟨m, h2⟩ := (exec_iff call b _ _ _).1 e
      refine ⟨max n m, ?_⟩
      unfold execC
      rw [exec_mono (Le.refl _) (Nat.le_max_left n m) a hn]
      exact exec_mono (Le.refl _) (Nat.le_max_right n m) b h2
    · rename_i hb
      obtain ⟨n, hn⟩ := (exec_iff call a φ H _).1 e
      refine ⟨n, ?_⟩
      unfold execC
      rw [hn]
      split
      · rename_i hx
        cases hx
        exact (hb _ _ e).elim
      · rfl

theorem exec_cond (x : AX) (a b : AC) : exec call (.cond x a b) φ H = match ev φ x with
    | .bool true => exec call a φ H
    | .bool false => exec call b φ H
    | _ => none := by
  unfold exec
  simp only [execC]
  cases ev φ x with
  | bool b => cases b <;> rfl
  | _ => exact lim_const _

theorem exec_block (id : Nat) (b : AC) : exec call (.block id b) φ H = match exec call b φ H with
    | some (.exit i, φ, H) => if i = id then some (.normal, φ, H) else some (.exit i, φ, H)
    | r => r := by
  apply opt_ext
  intro r
  rw [exec_iff]
  constructor
  · rintro ⟨n, e⟩
    unfold execC at e
    split at e
    · rename_i hs
      rw [(exec_iff call b φ H _).2 ⟨n, hs⟩]
      exact e
    · rename_i hb
      rw [(exec_iff call b φ H _).2 ⟨n, e⟩]
      split
      · rename_i hx
        cases hx
        exact (hb _ _ _ e).elim
      · rfl
  · intro e
    split at e
    · rename_i hs
      obtain ⟨n, hn⟩ := (exec_iff call b φ H _).1 hs
      refine ⟨n, ?_⟩
      unfold execC
      rw [hn]; exact e
    · rename_i hb
      obtain ⟨n, hn⟩ := (exec_iff call b φ H _).1 e
      refine ⟨n, ?_⟩
      unfold execC
      rw [hn]
      split
      · rename_i hx
        cases hx
        exact (hb _ _ _ e).elim
      · rfl

theorem exec_loop (keep : List Nat) (b : AC) : exec call (.loop keep b) φ H = match exec call b (Fr.mask φ keep) H with
    | some (.normal, φ, H) => exec call (.loop keep b) φ H
    | r => r := by
  apply opt_ext
  intro r
  rw [exec_iff]
  constructor
  · rintro ⟨n, e⟩
    unfold execC at e
    cases n with
    | zero => cases e
    | succ n =>
      unfold iter at e
      split at e
      · rename_i hs
        rw [(exec_iff call b _ H _).2 ⟨n + 1, hs⟩]
        refine (exec_iff call _ _ _ _).2 ⟨n + 1, ?_⟩
        unfold execC
        exact iter_mono (fun _ _ _ h => h) (Nat.le_succ n) e
      · rename_i hb
        rw [(exec_iff call b _ H _).2 ⟨n + 1, e⟩]
        split
        · rename_i hx
          cases hx
          exact (hb _ _ e).elim
        · rfl
  · intro e
    split at e
    · rename_i hs
      obtain ⟨n, hn⟩ := (exec_iff call b _ H _).1 hs
      obtain ⟨m, h2⟩ := (exec_iff call _ _ _ _).1 e
      refine ⟨max n m + 1, ?_⟩
      unfold execC iter
      rw [exec_mono (Le.refl _) (Nat.le_succ_of_le (Nat.le_max_left n m)) b hn]
      unfold execC at h2
      exact iter_mono (fun _ _ _ h => exec_mono (Le.refl _) (Nat.le_succ_of_le (Nat.le_max_right n m)) b h) (Nat.le_max_right n m) h2
    · rename_i hb
      obtain ⟨n, hn⟩ := (exec_iff call b _ H _).1 e
      refine ⟨n + 1, ?_⟩
      unfold execC iter
      rw [exec_mono (Le.refl _) (Nat.le_succ n) b hn]
      split
      · rename_i hx
        cases hx
        exact (hb _ _ e).elim
      · rfl
end

theorem eval_eq (tbl : Tbl) (ext : Ext) (f : Nat) (args : List V) (H : Heap) : eval tbl ext f args H = runF tbl ext (exec (eval tbl ext)) f args H := by
  apply opt_ext
  intro r
  rw [eval_iff]
  have hto : ∀ n, LeX (execC (run tbl ext n) n) (exec (eval tbl ext)) := by
    intro n a φ H r e
    exact (exec_iff _ _ _ _ _).2 ⟨n, exec_mono (fun f vs H r h => (eval_iff tbl ext f vs H r).2 ⟨n, h⟩) (Nat.le_refl _) a e⟩
  have hfrom : ∀ {a : AC} {φ : Fr} {H : Heap} {r : AExit × Fr × Heap}, exec (eval tbl ext) a φ H = some r → ∃ n, execC (run tbl ext n) n a φ H = some r := by
    intro a φ H r e
    obtain ⟨m, hm⟩ := (exec_iff _ _ _ _ _).1 e
    obtain ⟨n, hn⟩ := exec_cont (C := run tbl ext) (fun h => run_up tbl ext h) (fun f vs H r h => (eval_iff tbl ext f vs H r).1 h) m a hm
    exact ⟨max n m, exec_mono (run_up tbl ext (Nat.le_max_left n m)) (Nat.le_max_right n m) a hn⟩
  have hup : ∀ {n m : Nat}, n ≤ m → LeX (execC (run tbl ext n) n) (execC (run tbl ext m) m) := fun h a φ H r e => exec_mono (run_up tbl ext h) h a e
  constructor
  · rintro ⟨n, e⟩
    cases n with
    | zero => cases e
    | succ n => exact (runF_cn tbl ext f args H).mono _ _ (hto n) _ e
  · intro e
    obtain ⟨n, hn⟩ := (runF_cn tbl ext f args H).cont (fun n => execC (run tbl ext n) n) _ (fun _ _ h => hup h) (fun _ _ _ _ h => hfrom h) _ e
    exact ⟨n + 1, hn⟩

/-! A table as a list. -/

def Tab.get : List (Nat × AFunc) → Tbl
  | [], _ => none
  | (n, c) :: l, k => if k = n then some c else Tab.get l k

theorem Tab.nil {p : Nat → AFunc → Prop} : ∀ k af, Tab.get [] k = some af → p k af := fun _ _ h => (by cases h)

theorem Tab.cons {p : Nat → AFunc → Prop} {n : Nat} {c : AFunc} {l : List (Nat × AFunc)} (h : p n c) (hl : ∀ k af, Tab.get l k = some af → p k af) : ∀ k af, Tab.get ((n, c) :: l) k = some af → p k af := by
  intro k af e
  unfold Tab.get at e
  split at e
  · rename_i hk
    cases e; rw [hk]; exact h
  · exact hl k af e

end Go.AM
