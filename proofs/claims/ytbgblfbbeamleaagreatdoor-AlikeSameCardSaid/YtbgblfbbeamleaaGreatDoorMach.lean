/-
  The interpreter as a machine with a stack of what is still to do, so that a rewriter can run it: each equation fires at the head alone. Proved: the machine answers as 'eval' does.
-/
import Derived.Test.YtbgblfbbeamleaaGreatDoorLim
namespace Go.AM
set_option linter.unusedVariables false
set_option linter.unusedSimpArgs false

inductive Item where
  | code (c : AC)
  | ops (os : List AOper)
  | blk (id : Nat)
  | fin (res : List ARes) (n : Nat)
  | rnd (n i : Nat)
  | asg (n i : Nat) (b : AC)
  | dfn (g : Heap → Option Heap) (res : List ARes) (n : Nat)
  | wfn (res : List ARes)

def finish (res : List ARes) (n : Nat) (φ : Fr) (H : Heap) : Option (V × Heap) := match result φ H res with
  | some r => some (trunc n r H)
  | none => none

/-- The end of a wide form. -/
def finishW (res : List ARes) (φ : Fr) (H : Heap) : Option (V × Heap) := (result φ H res).map fun r => (r, H)

/-- What a return answers. -/
def retK : List Item → Fr → Heap → Option (V × Heap)
  | [], _, _ => none
  | .fin res n :: _, φ, H => finish res n φ H
  | .rnd n i :: _, _, H => endRound n i .ret H
  | .asg .. :: _, _, _ => none
  | .dfn g res n :: _, φ, H => (g H).bind fun H => finish res n φ H
  | .wfn res :: _, φ, H => finishW res φ H
  | .code _ :: k, φ, H | .ops _ :: k, φ, H | .blk _ :: k, φ, H => retK k φ H

noncomputable section
variable (call : CallF)

mutual
def M : List Item → Fr → Heap → Option (V × Heap)
  | [], _, _ => none
  | .fin res n :: _, φ, H => finish res n φ H
  | .rnd n i :: _, _, H => endRound n i .normal H
  | .asg n i b :: _, φ, H => bodyRound (exec call) n i b φ H
  | .dfn g res n :: _, φ, H => (g H).bind fun H => finish res n φ H
  | .wfn res :: _, φ, H => finishW res φ H
  | .blk _ :: k, φ, H => M k φ H
  | .ops os :: k, φ, H => match runOps call os φ H with
    | some (φ, H) => M k φ H
    | none => none
  | .code c :: k, φ, H => match exec call c φ H with
    | some (.normal, φ, H) => M k φ H
    | some (.ret, φ, H) => retK k φ H
    | some (.exit id, φ, H) => exitK k id φ H
    | none => none
def exitK : List Item → Nat → Fr → Heap → Option (V × Heap)
  | [], _, _, _ => none
  | .fin .. :: _, _, _, _ => none
  | .rnd n i :: _, id, _, H => endRound n i (.exit id) H
  | .asg .. :: _, _, _, _ => none
  | .dfn .. :: _, _, _, _ => none
  | .wfn .. :: _, _, _, _ => none
  | .blk i :: k, id, φ, H => if i = id then M k φ H else exitK k id φ H
  | .code _ :: k, id, φ, H | .ops _ :: k, id, φ, H => exitK k id φ H
end

/-- The rest of a region, and what follows it: not unfolded until it is given a frame. -/
def opsK (os : List AOper) (k : List Item) (p : Fr × Heap) : Option (V × Heap) := M call (.ops os :: k) p.1 p.2
def condK (v : V) (a b : AC) (k : List Item) (φ : Fr) (H : Heap) : Option (V × Heap) := match v with
  | .bool true => M call (.code a :: k) φ H
  | .bool false => M call (.code b :: k) φ H
  | _ => none

variable (φ : Fr) (H : Heap) (k : List Item)

@[simp] theorem opsK_pair (os : List AOper) : opsK call os k (φ, H) = M call (.ops os :: k) φ H := rfl
@[simp] theorem condK_true (a b : AC) : condK call (.bool true) a b k φ H = M call (.code a :: k) φ H := rfl
@[simp] theorem condK_false (a b : AC) : condK call (.bool false) a b k φ H = M call (.code b :: k) φ H := rfl
@[simp] theorem M_fin (res : List ARes) (n : Nat) : M call (.fin res n :: k) φ H = finish res n φ H := by simp [M]
@[simp] theorem M_dfn (g : Heap → Option Heap) (res : List ARes) (n : Nat) : M call (.dfn g res n :: k) φ H = (g H).bind fun H => finish res n φ H := by simp [M]
@[simp] theorem M_wfn (res : List ARes) : M call (.wfn res :: k) φ H = finishW res φ H := by simp [M]
@[simp] theorem retK_wfn (res : List ARes) : retK (.wfn res :: k) φ H = finishW res φ H := by simp [retK]
@[simp] theorem M_blk (id : Nat) : M call (.blk id :: k) φ H = M call k φ H := by simp [M]
@[simp] theorem M_ops_nil : M call (.ops [] :: k) φ H = M call k φ H := by simp [M, runOps]
@[simp] theorem M_ops_cons (o : AOper) (os : List AOper) : M call (.ops (o :: os) :: k) φ H = (stepO call o φ H).bind (opsK call os k) := by
  simp only [M, runOps]
  cases h : stepO call o φ H with
  | none => rfl
  | some p => simp [opsK, M]
@[simp] theorem M_skip : M call (.code .skip :: k) φ H = M call k φ H := by simp [M]
@[simp] theorem M_ret : M call (.code .ret :: k) φ H = retK k φ H := by simp [M]
@[simp] theorem M_exit (id : Nat) : M call (.code (.exit id) :: k) φ H = exitK call k id φ H := by simp [M]
@[simp] theorem M_reg (os : List AOper) : M call (.code (.reg os) :: k) φ H = M call (.ops os :: k) φ H := by
  simp only [M, exec_reg]
  cases h : runOps call os φ H with
  | none => rfl
  | some p => rfl
@[simp] theorem M_cond (x : AX) (a b : AC) : M call (.code (.cond x a b) :: k) φ H = condK call (ev φ x) a b k φ H := by
  simp only [M, exec_cond, condK]
  cases ev φ x with
  | bool b => cases b <;> rfl
  | _ => rfl
@[simp] theorem M_drw (cert : List (List Nat)) (os : List AOper) : M call (.code (.drw cert os) :: k) φ H = M call (.ops os :: k) φ H := by
  simp only [M, exec_drw]
  cases h : runOps call os φ H with
  | none => rfl
  | some p => rfl
@[simp] theorem retK_fin (res : List ARes) (n : Nat) : retK (.fin res n :: k) φ H = finish res n φ H := by simp [retK]
@[simp] theorem retK_dfn (g : Heap → Option Heap) (res : List ARes) (n : Nat) : retK (.dfn g res n :: k) φ H = (g H).bind fun H => finish res n φ H := by simp [retK]
@[simp] theorem retK_code (c : AC) : retK (.code c :: k) φ H = retK k φ H := by simp [retK]
@[simp] theorem retK_blk (id : Nat) : retK (.blk id :: k) φ H = retK k φ H := by simp [retK]
@[simp] theorem exitK_blk (i id : Nat) : exitK call (.blk i :: k) id φ H = if i = id then M call k φ H else exitK call k id φ H := by simp [exitK]
@[simp] theorem exitK_code (c : AC) (id : Nat) : exitK call (.code c :: k) id φ H = exitK call k id φ H := by simp [exitK]

@[simp] theorem M_seq (a b : AC) : M call (.code (.seq a b) :: k) φ H = M call (.code a :: .code b :: k) φ H := by
  simp only [M, exec_seq]
  cases h : exec call a φ H with
  | none => rfl
  | some r =>
    obtain ⟨e, φ', H'⟩ := r
    cases e with
    | normal => simp [M]
    | ret => simp
    | exit id => simp

@[simp] theorem M_block (id : Nat) (b : AC) : M call (.code (.block id b) :: k) φ H = M call (.code b :: .blk id :: k) φ H := by
  simp only [M, exec_block]
  cases h : exec call b φ H with
  | none => rfl
  | some r =>
    obtain ⟨e, φ', H'⟩ := r
    cases e with
    | normal => simp
    | ret => simp
    | exit i =>
      by_cases hi : i = id
      · simp [hi]
      · have hi' : ¬ id = i := fun h => hi h.symm
        simp [hi, hi']

/-- What follows a loop over a function. -/
def jumpK (i : Nat) (k : List Item) (φ : Fr) (H : Heap) (p : Nat × Nat × Nat × List Nat × List Nat × List V) : Option (V × Heap) :=
  if p.1 = 1 then none else match p.2.1 with
  | 0 => M call k φ (H.take i)
  | 1 => retK k φ (H.take i)
  | n + 2 => exitK call k n φ (H.take i)
def endK (i : Nat) (k : List Item) (φ : Fr) (p : V × Heap) : Option (V × Heap) := (recAt p.2 i).bind (jumpK call i k φ p.2)
def rfnK (keep : List Nat) (lbl : Nat) (ps : List Nat) (k : List Item) (φ : Fr) (H : Heap) (p : Nat × List V × List V) : Option (V × Heap) :=
  (call p.1 (p.2.1 ++ [.yld H.length] ++ p.2.2) (H ++ [some [.lrec 0 0 lbl ps keep (keep.map fun k => (Fr.get φ k).strip)]])).bind (endK call H.length k φ)
/-- A round's body, its record made busy. -/
def busyK (n i : Nat) (b : AC) (φ : Fr) (H : Heap) (p : Nat × Nat × Nat × List Nat × List Nat × List V) : Option (V × Heap) :=
  if p.1 = 0 then M call [.code b, .rnd n i] φ (H.set i (some [.lrec 1 p.2.1 p.2.2.1 p.2.2.2.1 p.2.2.2.2.1 p.2.2.2.2.2])) else none

@[simp] theorem jumpK_ready (i : Nat) (r : Nat × List Nat × List Nat × List V) : jumpK call i k φ H (0, 0, r) = M call k φ (H.take i) := rfl
@[simp] theorem jumpK_ret (i : Nat) (r : Nat × List Nat × List Nat × List V) : jumpK call i k φ H (2, 1, r) = retK k φ (H.take i) := rfl
@[simp] theorem jumpK_exit (i n : Nat) (r : Nat × List Nat × List Nat × List V) : jumpK call i k φ H (2, n + 2, r) = exitK call k n φ (H.take i) := rfl
@[simp] theorem endK_eq (i : Nat) (v : V) : endK call i k φ (v, H) = (recAt H i).bind (jumpK call i k φ H) := rfl
@[simp] theorem rfnK_eq (keep : List Nat) (lbl : Nat) (ps : List Nat) (f : Nat) (x y : List V) : rfnK call keep lbl ps k φ H (f, x, y) =
  (call f (x ++ [.yld H.length] ++ y) (H ++ [some [.lrec 0 0 lbl ps keep (keep.map fun k => (Fr.get φ k).strip)]])).bind (endK call H.length k φ) := rfl
@[simp] theorem busyK_eq (n i : Nat) (b : AC) (p lbl : Nat) (ps ks : List Nat) (vs : List V) : busyK call n i b φ H (0, p, lbl, ps, ks, vs) = M call [.code b, .rnd n i] φ (H.set i (some [.lrec 1 p lbl ps ks vs])) := rfl
@[simp] theorem M_rnd (n i : Nat) : M call (.rnd n i :: k) φ H = endRound n i .normal H := by simp [M]
@[simp] theorem retK_rnd (n i : Nat) : retK (.rnd n i :: k) φ H = endRound n i .ret H := by simp [retK]
@[simp] theorem exitK_rnd (n i id : Nat) : exitK call (.rnd n i :: k) id φ H = endRound n i (.exit id) H := by simp [exitK]

@[simp] theorem M_asg (n i : Nat) (b : AC) : M call (.asg n i b :: k) φ H = (recAt H i).bind (busyK call n i b φ H) := by
  simp only [M, bodyRound]
  rcases recAt H i with _ | ⟨st, p, lbl, ps, ks, vs⟩
  · rfl
  · simp only [Option.bind_some, busyK]
    by_cases h : st = 0
    · rw [if_pos h, if_pos h]
      simp only [M]
      rcases exec call b φ (H.set i (some [.lrec 1 p lbl ps ks vs])) with _ | ⟨e, φ', H'⟩
      · rfl
      · cases e with
        | normal => rfl
        | ret => simp
        | exit id => simp
    · rw [if_neg h, if_neg h]

@[simp] theorem M_rfn (g : AX) (keep : List Nat) (lbl : Nat) (ps : List Nat) (a b : AC) : M call (.code (.rfn g keep lbl ps a b) :: k) φ H = (fnParts0 (rd φ g)).bind (rfnK call keep lbl ps k φ H) := by
  simp only [M, exec_rfn, runRfn]
  cases hg : fnParts0 (rd φ g) with
  | none => rfl
  | some r =>
    obtain ⟨f, x, y⟩ := r
    simp only [Option.bind_some, rfnK_eq]
    generalize call f (x ++ [.yld H.length] ++ y) (H ++ [some [.lrec 0 0 lbl ps keep (keep.map fun k => (Fr.get φ k).strip)]]) = o
    cases o with
    | none => rfl
    | some q =>
      obtain ⟨v, H'⟩ := q
      simp only [Option.bind_some, endK_eq, endRfn]
      generalize recAt H' H.length = o
      cases o with
      | none => rfl
      | some q =>
        obtain ⟨st, p, q⟩ := q
        simp only [Option.bind_some, jumpK]
        by_cases h : st = 1
        · rw [if_pos h, if_pos h]
        · rw [if_neg h, if_neg h]
          match p with
          | 0 => rfl
          | 1 => rfl
          | n + 2 => rfl

theorem M_loop (keep : List Nat) (b : AC) : M call (.code (.loop keep b) :: k) φ H = M call (.code b :: .code (.loop keep b) :: k) (Fr.mask φ keep) H := by
  conv => lhs; simp only [M]
  rw [exec_loop]
  conv => rhs; unfold M
  cases h : exec call b (Fr.mask φ keep) H with
  | none => rfl
  | some r =>
    obtain ⟨e, φ', H'⟩ := r
    cases e with
    | normal => simp [M]
    | ret => simp
    | exit id => simp

end

theorem fnEnd_finish (res : List ARes) (n : Nat) (φ : Fr) (H : Heap) : (result φ H res).map (fun r => trunc n r H) = finish res n φ H := by
  unfold finish
  cases result φ H res <;> rfl

theorem M_end (call : CallF) (b : AC) (res : List ARes) (n : Nat) (φ : Fr) (H : Heap) : (exec call b φ H).bind (fnEnd res n) = M call [.code b, .fin res n] φ H := by
  simp only [M]
  cases h : exec call b φ H with
  | none => rfl
  | some r =>
    obtain ⟨e, φ', H'⟩ := r
    cases e with
    | normal => exact fnEnd_finish res n φ' H'
    | ret => exact fnEnd_finish res n φ' H'
    | exit id => simp [exitK, fnEnd]

theorem fnRun_plain {tbl : Tbl} {ext : Ext} {ex : ExF} {f : Nat} {args : List V} {H : Heap} {af : AFunc} (h1 : ext f = none) (h2 : tbl f = some af) (h3 : args.length = af.np) (h4 : af.body.plain = true) :
    fnRun tbl ext ex f args H = (ex af.body (params 0 args) H).bind (fnEnd af.res H.length) := by
  unfold fnRun
  rw [h1, h2]
  dsimp only
  rw [if_pos h3]
  split
  · rename_i e; rw [e] at h4; cases h4
  · rfl

theorem eval_M {tbl : Tbl} {ext : Ext} {f : Nat} {args : List V} {H : Heap} {af : AFunc} (h0 : Nat.blt f yBase = true) (h1 : ext f = none) (h2 : tbl f = some af) (h3 : args.length = af.np) (h4 : af.body.plain = true := by rfl) :
    eval tbl ext f args H = M (eval tbl ext) [.code af.body, .fin af.res H.length] (params 0 args) H := by
  rw [eval_eq, runF, if_pos (by simpa [Nat.blt_eq] using h0), fnRun_plain h1 h2 h3 h4, M_end]

/-- The wide form of a function. -/
theorem eval_W {tbl : Tbl} {ext : Ext} {f : Nat} {args : List V} {H : Heap} {af : AFunc} (h2 : tbl (wTab f) = some af) (h3 : args.length = af.np) :
    eval tbl ext (wNo f) args H = M (eval tbl ext) [.code af.body, .wfn af.res] (params 0 args) H := by
  rw [eval_eq, runF, if_neg (by unfold wNo; omega), if_neg (by unfold wNo; omega), show (wNo f - yBase) / 2 = f by unfold wNo; omega]
  unfold wideRun
  rw [h2]
  dsimp only
  rw [if_pos h3]
  simp only [M]
  cases h : exec (eval tbl ext) af.body (params 0 args) H with
  | none => rfl
  | some r =>
    obtain ⟨e, φ', H'⟩ := r
    cases e with
    | normal => rfl
    | ret => rfl
    | exit id => simp [exitK, wideEnd]

/-- What the deferred call does to the memory. -/
noncomputable def dfrCall (tbl : Tbl) (ext : Ext) (g : Nat) (vs : List V) (H : Heap) : Option Heap := (eval tbl ext g vs H).map (·.2)

theorem M_dfrEnd {tbl : Tbl} {ext : Ext} {g : Nat} {vs : List V} {ag : AFunc} (h0 : Nat.blt g yBase = true) (h1 : ext g = none) (h2 : tbl g = some ag) (h3 : vs.length = ag.np) (h4 : ag.body.plain = true) (b : AC) (res : List ARes) (n : Nat) (φ : Fr) (H : Heap) :
    (exec (eval tbl ext) b φ H).bind (dfrEnd tbl (exec (eval tbl ext)) g vs res n) = M (eval tbl ext) [.code b, .dfn (dfrCall tbl ext g vs) res n] φ H := by
  have key : ∀ φ' H', ((fnOne tbl (exec (eval tbl ext)) g vs H').bind fun p => fnEnd res n (.ret, φ', p.2)) = (dfrCall tbl ext g vs H').bind fun H => finish res n φ' H := by
    intro φ' H'
    have e : fnOne tbl (exec (eval tbl ext)) g vs H' = eval tbl ext g vs H' := by
      rw [eval_eq, runF, if_pos (by simpa [Nat.blt_eq] using h0), fnRun_plain h1 h2 h3 h4]
      unfold fnOne
      rw [h2]
      dsimp only
      rw [if_pos h3]
    rw [e]
    unfold dfrCall
    cases eval tbl ext g vs H' with
    | none => rfl
    | some p => exact fnEnd_finish res n φ' p.2
  simp only [M]
  cases h : exec (eval tbl ext) b φ H with
  | none => rfl
  | some r =>
    obtain ⟨e, φ', H'⟩ := r
    cases e with
    | normal => exact key φ' H'
    | ret => exact key φ' H'
    | exit id => simp [exitK, dfrEnd]

/-- A function with a deferred call: what stands ahead of it; its condition fails. -/
theorem eval_D0 {tbl : Tbl} {ext : Ext} {f : Nat} {args : List V} {H : Heap} {af : AFunc} (h0 : Nat.blt f yBase = true) (h1 : ext f = none) (h2 : tbl f = some af) (h3 : args.length = af.np) {pre : AC} {c : AX} {ops : AC} {g : Nat} {ks : List Nat} {rest : AC} (h4 : af.body = .dfr pre c ops g ks rest)
    {φ1 : Fr} {H1 : Heap} (hp : exec (eval tbl ext) pre (params 0 args) H = some (.normal, φ1, H1)) (hc : ev φ1 c = .bool false) :
    eval tbl ext f args H = M (eval tbl ext) [.code rest, .fin af.res H.length] φ1 H1 := by
  rw [eval_eq, runF, if_pos (by simpa [Nat.blt_eq] using h0)]
  unfold fnRun
  rw [h1, h2]
  dsimp only
  rw [if_pos h3, h4]
  dsimp only
  rw [hp]
  simp only [Option.bind_some, dfrPre, hc]
  exact M_end _ _ _ _ _ _

/-- .. its condition holds. -/
theorem eval_D1 {tbl : Tbl} {ext : Ext} {f : Nat} {args : List V} {H : Heap} {af : AFunc} (h0 : Nat.blt f yBase = true) (h1 : ext f = none) (h2 : tbl f = some af) (h3 : args.length = af.np) {pre : AC} {c : AX} {ops : AC} {g : Nat} {ks : List Nat} {rest : AC} (h4 : af.body = .dfr pre c ops g ks rest)
    {ag : AFunc} (g0 : Nat.blt g yBase = true) (g1 : ext g = none) (g2 : tbl g = some ag) (g3 : ks.length = ag.np) (g4 : ag.body.plain = true)
    {φ1 : Fr} {H1 : Heap} (hp : exec (eval tbl ext) pre (params 0 args) H = some (.normal, φ1, H1)) (hc : ev φ1 c = .bool true)
    {φ2 : Fr} {H2 : Heap} (ho : exec (eval tbl ext) ops φ1 H1 = some (.normal, φ2, H2)) :
    eval tbl ext f args H = M (eval tbl ext) [.code rest, .dfn (dfrCall tbl ext g (ks.map fun k => (Fr.get φ2 k).strip)) af.res H.length] φ2 H2 := by
  rw [eval_eq, runF, if_pos (by simpa [Nat.blt_eq] using h0)]
  unfold fnRun
  rw [h1, h2]
  dsimp only
  rw [if_pos h3, h4]
  dsimp only
  rw [hp]
  simp only [Option.bind_some, dfrPre, hc]
  rw [ho]
  simp only [Option.bind_some, dfrOps]
  exact M_dfrEnd g0 g1 g2 (by simpa using g3) g4 _ _ _ _ _

/-- A round. -/
theorem eval_Y {tbl : Tbl} {ext : Ext} {i : Nat} {args : List V} {H : Heap} {p lbl np : Nat} {ps ks : List Nat} {vs : List V} {a b : AC} {res : List ARes} (h1 : recAt H i = some (0, p, lbl, ps, ks, vs)) (h2 : tbl lbl = some ⟨np, .seq a b, res⟩) (h3 : args.length = ps.length) :
    eval tbl ext (yNo i) args H = M (eval tbl ext) [.code a, .asg H.length i b] (ps.zip args ++ ks.zip vs) H := by
  rw [eval_eq, runF, if_neg (by unfold yNo; omega), if_pos (by unfold yNo; omega), show (yNo i - yBase) / 2 = i by unfold yNo; omega]
  unfold round
  rw [h1]
  simp only [h3, and_self, if_true, h2]
  conv => rhs; unfold M
  rcases exec (eval tbl ext) a (ps.zip args ++ ks.zip vs) H with _ | ⟨e, φ', H'⟩
  · rfl
  · cases e with
    | normal => simp only [M]
    | ret => simp [retK]
    | exit id => simp [exitK]

end Go.AM
