/-
  The interpreter as a machine with a stack of what is still to do, so that a rewriter can run it: each equation fires at the head alone. Proved: the machine answers as 'eval' does.
-/
import Derived.Test.YtddhdalacanngaaLim
namespace Go.AM
set_option linter.unusedVariables false
set_option linter.unusedSimpArgs false

inductive Item where
  | code (c : AC)
  | ops (os : List AOper)
  | blk (id : Nat)
  | fin (res : List ARes) (n : Nat)

def finish (res : List ARes) (n : Nat) (φ : Fr) (H : Heap) : Option (V × Heap) := match result φ H res with
  | some r => some (trunc n r H)
  | none => none

/-- What a return answers. -/
def retK : List Item → Fr → Heap → Option (V × Heap)
  | [], _, _ => none
  | .fin res n :: _, φ, H => finish res n φ H
  | .code _ :: k, φ, H | .ops _ :: k, φ, H | .blk _ :: k, φ, H => retK k φ H

noncomputable section
variable (call : CallF)

mutual
def M : List Item → Fr → Heap → Option (V × Heap)
  | [], _, _ => none
  | .fin res n :: _, φ, H => finish res n φ H
  | .blk _ :: k, φ, H => M k φ H
  | .ops os :: k, φ, H => match runOps call os φ H with
    | some (φ, H) => M k φ H
    | none => none
  | .code c :: k, φ, H => match exec call c φ H with
    | some (.normal, φ, H) => M k φ H
    | some (.ret, φ, H) => retK k φ H
    | some (.exit id, φ, H) => exitK k id φ H
    | none => none
def exitK : List Item → Nat → Fr → Heap → Option (V × Heap)
  | [], _, _, _ => none
  | .fin .. :: _, _, _, _ => none
  | .blk i :: k, id, φ, H => if i = id then M k φ H else exitK k id φ H
  | .code _ :: k, id, φ, H | .ops _ :: k, id, φ, H => exitK k id φ H
end

/-- The rest of a region, and what follows it: not unfolded until it is given a frame. -/
def opsK (os : List AOper) (k : List Item) (p : Fr × Heap) : Option (V × Heap) := M call (.ops os :: k) p.1 p.2
def calmK (os rest : List AOper) (k : List Item) (p : Fr × Heap) : Option (V × Heap) := match runCalm call os p.1 p.2 with
  | some p => opsK call rest k p
  | none => none
/-- What follows an operation of a head. -/
def calm1K (d : Option Nat) (os rest : List AOper) (k : List Item) (φ : Fr) (H : Heap) (v : V) : Option (V × Heap) := calmK call os rest k (Fr.put φ d v, H)
def condK (v : V) (a b : AC) (k : List Item) (φ : Fr) (H : Heap) : Option (V × Heap) := match v with
  | .bool true => M call (.code a :: k) φ H
  | .bool false => M call (.code b :: k) φ H
  | _ => none

variable (φ : Fr) (H : Heap) (k : List Item)

@[simp] theorem opsK_pair (os : List AOper) : opsK call os k (φ, H) = M call (.ops os :: k) φ H := rfl
@[simp] theorem condK_true (a b : AC) : condK call (.bool true) a b k φ H = M call (.code a :: k) φ H := rfl
@[simp] theorem condK_false (a b : AC) : condK call (.bool false) a b k φ H = M call (.code b :: k) φ H := rfl
@[simp] theorem M_fin (res : List ARes) (n : Nat) : M call (.fin res n :: k) φ H = finish res n φ H := by simp [M]
@[simp] theorem M_blk (id : Nat) : M call (.blk id :: k) φ H = M call k φ H := by simp [M]
@[simp] theorem M_ops_nil : M call (.ops [] :: k) φ H = M call k φ H := by simp [M, runOps]
@[simp] theorem M_ops_cons (o : AOper) (os : List AOper) : M call (.ops (o :: os) :: k) φ H = (stepO call o φ H).bind (opsK call os k) := by
  simp only [M, runOps]
  cases h : stepO call o φ H with
  | none => rfl
  | some p => simp [opsK, M]
@[simp] theorem M_skip : M call (.code .skip :: k) φ H = M call k φ H := by simp [M]
@[simp] theorem M_ret : M call (.code .ret :: k) φ H = retK k φ H := by simp [M]
@[simp] theorem M_exit (id : Nat) : M call (.code (.exit id) :: k) φ H = exitK call k id φ H := by simp [M]
@[simp] theorem M_reg (os : List AOper) : M call (.code (.reg os) :: k) φ H = M call (.ops os :: k) φ H := by
  simp only [M, exec_reg]
  cases h : runOps call os φ H with
  | none => rfl
  | some p => rfl
@[simp] theorem M_cond (x : AX) (a b : AC) : M call (.code (.cond x a b) :: k) φ H = condK call (ev φ x) a b k φ H := by
  simp only [M, exec_cond, condK]
  cases ev φ x with
  | bool b => cases b <;> rfl
  | _ => rfl
@[simp] theorem calm1K_eq (d : Option Nat) (os rest : List AOper) (v : V) : calm1K call d os rest k φ H v = calmK call os rest k (Fr.put φ d v, H) := rfl
@[simp] theorem calmK_nil (rest : List AOper) : calmK call [] rest k (φ, H) = M call (.ops rest :: k) φ H := by simp [calmK, runCalm]
@[simp] theorem calmK_cons (o : AOper) (os rest : List AOper) : calmK call (o :: os) rest k (φ, H) = (stepOC call o φ H).bind (calm1K call o.d os rest k φ H) := by
  simp only [calmK, runCalm]
  cases h : stepOC call o φ H with
  | none => rfl
  | some p => rfl
@[simp] theorem M_drw (n : Nat) (os : List AOper) : M call (.code (.drw n os) :: k) φ H = calmK call (os.take n) (os.drop n) k (φ, H) := by
  simp only [M, exec_drw, calmK]
  cases h : runCalm call (os.take n) φ H with
  | none => rfl
  | some p =>
    simp only [opsK, M]
    cases h : runOps call (os.drop n) p.1 p.2 with
    | none => rfl
    | some p => rfl
@[simp] theorem retK_fin (res : List ARes) (n : Nat) : retK (.fin res n :: k) φ H = finish res n φ H := by simp [retK]
@[simp] theorem retK_code (c : AC) : retK (.code c :: k) φ H = retK k φ H := by simp [retK]
@[simp] theorem retK_blk (id : Nat) : retK (.blk id :: k) φ H = retK k φ H := by simp [retK]
@[simp] theorem exitK_blk (i id : Nat) : exitK call (.blk i :: k) id φ H = if i = id then M call k φ H else exitK call k id φ H := by simp [exitK]
@[simp] theorem exitK_code (c : AC) (id : Nat) : exitK call (.code c :: k) id φ H = exitK call k id φ H := by simp [exitK]

@[simp] theorem M_seq (a b : AC) : M call (.code (.seq a b) :: k) φ H = M call (.code a :: .code b :: k) φ H := by
  simp only [M, exec_seq]
  cases h : exec call a φ H with
  | none => rfl
  | some r =>
    obtain ⟨e, φ', H'⟩ := r
    cases e with
    | normal => simp [M]
    | ret => simp
    | exit id => simp

@[simp] theorem M_block (id : Nat) (b : AC) : M call (.code (.block id b) :: k) φ H = M call (.code b :: .blk id :: k) φ H := by
  simp only [M, exec_block]
  cases h : exec call b φ H with
  | none => rfl
  | some r =>
    obtain ⟨e, φ', H'⟩ := r
    cases e with
    | normal => simp
    | ret => simp
    | exit i =>
      by_cases hi : i = id
      · simp [hi]
      · have hi' : ¬ id = i := fun h => hi h.symm
        simp [hi, hi']

theorem M_loop (keep : List Nat) (b : AC) : M call (.code (.loop keep b) :: k) φ H = M call (.code b :: .code (.loop keep b) :: k) (Fr.mask φ keep) H := by
  conv => lhs; simp only [M]
  rw [exec_loop]
  conv => rhs; unfold M
  cases h : exec call b (Fr.mask φ keep) H with
  | none => rfl
  | some r =>
    obtain ⟨e, φ', H'⟩ := r
    cases e with
    | normal => simp [M]
    | ret => simp
    | exit id => simp

end

theorem eval_M {tbl : Tbl} {ext : Ext} {f : Nat} {args : List V} {H : Heap} {af : AFunc} (h1 : ext f = none) (h2 : tbl f = some af) (h3 : args.length = af.np) :
    eval tbl ext f args H = M (eval tbl ext) [.code af.body, .fin af.res H.length] (params 0 args) H := by
  rw [eval_eq, h1, h2]
  simp only [if_pos h3, M]
  cases h : exec (eval tbl ext) af.body (params 0 args) H with
  | none => rfl
  | some r =>
    obtain ⟨e, φ', H'⟩ := r
    cases e with
    | normal => rfl
    | ret => rfl
    | exit id => simp [exitK]

end Go.AM
