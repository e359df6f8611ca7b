/-
 The parts of this proof that speak of the functions one by one.
-/
import Derived.Test.YtfbnodahmmlfdaaGreatDoorSpecTr
import Derived.Test.YtfbnodahmmlfdaaGreatDoorSpecWd
namespace Go.AM.Spec
set_option linter.unusedVariables false
set_option linter.unusedSimpArgs false
abbrev kOr : List UInt8 := [111, 114]
abbrev kAnd : List UInt8 := [97, 110, 100]
abbrev kNot : List UInt8 := [110, 111, 116]
abbrev kExists : List UInt8 := [101, 120, 105, 115, 116, 115]
abbrev kSize : List UInt8 := [115, 105, 122, 101]
abbrev kRead : List UInt8 := [114, 101, 97, 100]
abbrev kTrue : List UInt8 := [116, 114, 117, 101]
abbrev kFalse : List UInt8 := [102, 97, 108, 115, 101]
abbrev kMain : List UInt8 := [109, 97, 105, 110]
abbrev kProc : List UInt8 := [112, 114, 111, 99]
abbrev kRecover : List UInt8 := [114, 101, 99, 111, 118, 101, 114]
abbrev kOracle : List UInt8 := [111, 114, 97, 99, 108, 101]
abbrev kElse : List UInt8 := [101, 108, 115, 101]
abbrev kCommit : List UInt8 := [99, 111, 109, 109, 105, 116]
abbrev kWrite : List UInt8 := [119, 114, 105, 116, 101]
abbrev kLet : List UInt8 := [108, 101, 116]
abbrev kCall : List UInt8 := [99, 97, 108, 108]
abbrev kIf : List UInt8 := [105, 102]
abbrev kRepeat : List UInt8 := [114, 101, 112, 101, 97, 116]
abbrev kTxn : List UInt8 := [116, 120, 110]
abbrev kCreate : List UInt8 := [99, 114, 101, 97, 116, 101]
abbrev kMkdir : List UInt8 := [109, 107, 100, 105, 114]
abbrev kAppend : List UInt8 := [97, 112, 112, 101, 110, 100]
abbrev kTruncate : List UInt8 := [116, 114, 117, 110, 99, 97, 116, 101]
abbrev kRename : List UInt8 := [114, 101, 110, 97, 109, 101]
abbrev kUnlink : List UInt8 := [117, 110, 108, 105, 110, 107]
abbrev kFsync : List UInt8 := [102, 115, 121, 110, 99]
abbrev kFdatasync : List UInt8 := [102, 100, 97, 116, 97, 115, 121, 110, 99]
abbrev kSyncdir : List UInt8 := [115, 121, 110, 99, 100, 105, 114]
abbrev kReplay : List UInt8 := [114, 101, 112, 108, 97, 121]
abbrev kAssert : List UInt8 := [97, 115, 115, 101, 114, 116]
abbrev kBarrier : List UInt8 := [98, 97, 114, 114, 105, 101, 114]
abbrev gLp : List UInt8 := [40]
abbrev gRp : List UInt8 := [41]
abbrev gLb : List UInt8 := [123]
abbrev gRb : List UInt8 := [125]
abbrev gSe : List UInt8 := [59]
abbrev gCo : List UInt8 := [44]
abbrev gCl : List UInt8 := [58]
abbrev gPl : List UInt8 := [43]
abbrev gMi : List UInt8 := [45]
abbrev gEE : List UInt8 := [61, 61]
abbrev gLt : List UInt8 := [60]
def zw : Wx := ⟨0, [], 0, 0⟩
def zx : Ex := .mk 0 0 [] []
def zm : Sm := .mk 0 [] 0 [] [] [] false
structure PS where
 left : List Wx
 fe : Int
 fa : Int
 st : Int
 o : Bool
namespace PS
def head (s : PS) : Wx := s.left.headD zw
def clean (s : PS) : Prop := s.fe = 0 ∧ s.fa = 0
instance (s : PS) : Decidable s.clean := by unfold clean; infer_instance
def fail (s : PS) (e : Int) (w : Wx) : PS := ⟨[zw], if s.clean then e else s.fe, if s.clean then w.a else s.fa, s.st, true⟩
def skip (s : PS) : PS := if 1 < s.left.length then ⟨s.left.tail, s.fe, s.fa, s.st, false⟩ else s
def sees (s : PS) (l : List (List UInt8)) : Option (List UInt8) := if (s.head.kind = 4 ∨ s.head.kind = 5) ∧ s.head.s ∈ l then some s.head.s else none
def takes (s : PS) (l : List (List UInt8)) : Option (List UInt8) × PS := match s.sees l with
 | some t => (some t, s.skip)
 | none => (none, s)
def wants (s : PS) (t : List UInt8) : PS := match s.takes [t] with
 | (some _, r) => r
 | (none, r) => r.fail 12 r.head
def of (s : PS) (k : Int) : Wx × PS := if s.head.kind ≠ k then (zw, s.fail 12 s.head) else (s.head, s.skip)
structure good (s : PS) : Prop where
 ne : s.left ≠ []
 last : ∀ h, (s.left.getLast h).kind = 0
 fault : ¬ s.clean → s.left.length = 1
 len : s.left.length ≤ 4097
end PS
def opOf (t : List UInt8) : Int :=
 if t = kExists then 5 else if t = kSize then 6 else if t = kRead then 7 else if t = kNot then 8 else if t = gPl then 9 else if t = gMi then 10 else if t = gEE then 11 else if t = gLt then 12 else if t = kAnd then 13 else 14
abbrev PF := PS → Ex × PS
def chainP (part : PF) (signs : List (List UInt8)) : Nat → Ex → PF
 | 0, x, s => (x, s)
 | n + 1, x, s => match s.takes signs with
  | (none, r) => (x, r)
  | (some t, r) => chainP part signs n (.mk (opOf t) 0 [] [x, (part r).1]) (part r).2
def chain (part : PF) (signs : List (List UInt8)) (n : Nat) : PF := fun s => chainP part signs n (part s).1 (part s).2
def innerP (ex : PF) : PF := fun s => ((ex (s.wants gLp)).1, (ex (s.wants gLp)).2.wants gRp)
def partP (ex : PF) : PF := fun s =>
 if s.head.kind = 2 then (.mk 1 s.head.n [] [], s.skip)
 else if s.head.kind = 3 then (.mk 2 0 s.head.s [], s.skip)
 else if s.head.kind = 1 then (.mk 4 0 s.head.s [], s.skip)
 else if (s.sees [gLp]).isSome then innerP ex s
 else match s.takes [kTrue, kFalse, kExists, kSize, kRead] with
  | (none, r) => (zx, r.fail 12 s.head)
  | (some t, r) => if t = kTrue then (.mk 3 1 [] [], r) else if t = kFalse then (.mk 3 0 [] [], r) else (.mk (opOf t) 0 [] [(innerP ex r).1], (innerP ex r).2)
def sumP (ex : PF) : PF := chain (partP ex) [gPl, gMi] 4096
def cmpP (ex : PF) : PF := chain (sumP ex) [gEE, gLt] 1
def notP (ex : PF) : Nat → PF
 | 0, s => cmpP ex s
 | n + 1, s => match s.takes [kNot] with
  | (none, r) => cmpP ex r
  | (some _, r) => (.mk 8 0 [] [(notP ex n r).1], (notP ex n r).2)
def bothP (ex : PF) (n : Nat) : PF := chain (notP ex n) [kAnd] 4096
def orP (ex : PF) (n : Nat) : PF := chain (bothP ex n) [kOr] 4096
def exprP : Nat → PF
 | 0 => fun s => (zx, s)
 | n + 1 => orP (exprP n) n
mutual
def Ex.deep : Ex → Nat
 | .mk _ _ _ x => Ex.deeps x + 1
def Ex.deeps : List Ex → Nat
 | [] => 0
 | e :: l => max e.deep (Ex.deeps l)
end
def wholeP (t : List UInt8) (n : Nat) : PF := fun s =>
 let x := exprP n s
 if ¬ x.2.clean then x
 else if (x.2.sees [t]).isNone ∧ ¬ (t = [] ∧ x.2.head.kind = 0) then (x.1, x.2.fail 12 x.2.head)
 else if 8 < x.1.deep then (x.1, x.2.fail 14 s.head)
 else x
def nEx (op : Int) : Nat := if op = 11 ∨ op = 14 ∨ op = 15 then 0 else if op = 4 ∨ op = 5 ∨ op = 6 then 2 else if op = 3 then 3 else 1
def simpleP (w : Wx) : Option Int :=
 if w.kind = 4 then
  if w.s = kCreate then some 1 else if w.s = kMkdir then some 2 else if w.s = kWrite then some 3 else if w.s = kAppend then some 4 else if w.s = kTruncate then some 5
  else if w.s = kRename then some 6 else if w.s = kUnlink then some 7 else if w.s = kFsync then some 8 else if w.s = kFdatasync then some 9 else if w.s = kSyncdir then some 10
  else if w.s = kReplay then some 17 else if w.s = kAssert then some 18 else if w.s = kBarrier then some 11 else none
 else none
def exprsG (n : Nat) : Nat → List Ex → PS → List Ex × PS
 | 0, l, s => (l, s)
 | k + 1, l, s =>
  let e := if k = 0 then gSe else gCo
  exprsG n k (l ++ [(wholeP e n s).1]) ((wholeP e n s).2.wants e)
def exprsP (n : Nat) (op : Int) (s : PS) : List Ex × PS := if nEx op = 0 then ([], s.wants gSe) else exprsG n (nEx op) [] s
abbrev SF := Int → PS → Sm × PS
def blockG (stm : PS → Sm × PS) : Nat → List Sm → PS → List Sm × PS
 | 0, l, s => (l, s)
 | k + 1, l, s => if ¬ s.clean then (l, s) else match s.takes [gRb] with
  | (some _, r) => (l, r)
  | (none, r) => blockG stm k (l ++ [(stm r).1]) (stm r).2
def blockP (stm : SF) (n : Nat) (deep : Int) (s : PS) : List Sm × PS := blockG (stm deep) n [] (s.wants gLb)
def txnG (stm : PS → Sm × PS) : Nat → List Sm → PS → List Sm × PS
 | 0, l, s => if (s.sees [kWrite]).isSome then (l, s.fail 14 s.head) else (l, s)
 | k + 1, l, s => if (s.sees [kWrite]).isSome then txnG stm k (l ++ [(stm s).1]) (stm s).2 else (l, s)
def txnP (stm : SF) (n : Nat) (deep : Int) (s : PS) : Sm × PS :=
 let x := wholeP gLb n s
 let b := txnG (stm (deep + 1)) 8 [] (x.2.wants gLb)
 let c := (b.2.wants gRb).takes [kCommit]
 (.mk 16 [] 0 [x.1] b.1 [] c.1.isSome, c.2.wants gSe)
def loopP (stm : SF) (n : Nat) (deep : Int) (s : PS) : Sm × PS :=
 let w := s.of 2
 let r := if 16 < w.1.n then w.2.fail 14 w.1 else w.2
 let b := blockP stm n (deep + 1) r
 (.mk 14 [] w.1.n [] b.1 [] false, b.2)
def choiceP (stm : SF) (n : Nat) (deep : Int) (s : PS) : Sm × PS :=
 let x := wholeP gLb n s
 let b := blockP stm n (deep + 1) x.2
 match b.2.takes [kElse] with
 | (none, r) => (.mk 13 [] 0 [x.1] b.1 [] false, r)
 | (some _, r) =>
  let c := blockP stm n (deep + 1) r
  (.mk 13 [] 0 [x.1] b.1 c.1 false, c.2)
def letP (n : Nat) (s : PS) : Sm × PS :=
 let w := s.of 1
 let e := exprsP n 12 (w.2.wants [61])
 (.mk 12 w.1.s 0 e.1 [] [] false, e.2)
def callP (n : Nat) (s : PS) : Sm × PS :=
 let w := s.of 1
 let e := exprsP n 15 w.2
 (.mk 15 w.1.s 0 e.1 [] [] false, e.2)
def stmtB (stm : SF) (n : Nat) : SF := fun deep s =>
 if (simpleP s.head).isNone ∧ (s.sees [kLet, kCall, kIf, kRepeat, kTxn]).isNone then (zm, s.fail 12 s.head)
 else
  let r : PS := ⟨s.left, s.fe, s.fa, s.st + 1, s.o⟩
  if 256 < r.st ∨ 8 < deep then (zm, r.fail 14 s.head)
  else match s.sees [kLet, kCall, kIf, kRepeat, kTxn] with
   | none =>
    let e := exprsP n ((simpleP s.head).getD 0) r.skip
    (.mk ((simpleP s.head).getD 0) [] 0 e.1 [] [] false, e.2)
   | some t => if t = kLet then letP n r.skip else if t = kCall then callP n r.skip else if t = kIf then choiceP stm n deep r.skip else if t = kRepeat then loopP stm n deep r.skip else txnP stm n deep r.skip
def stmtP : Nat → SF
 | 0 => fun _ s => (zm, s)
 | n + 1 => stmtB (stmtP n) n
def namedP (key : List UInt8) (n : Nat) (s : PS) : Option (List UInt8) × PS := match s.takes [key] with
 | (none, r) => (none, r)
 | (some _, r) =>
  let w := (if n = 16 then r.fail 14 s.head else r).of 1
  (some w.1.s, w.2)
set_option linter.unusedVariables false
set_option linter.unusedSimpArgs false
namespace PS
structure to (s r : PS) : Prop where
 good : r.good
 len : r.left.length ≤ s.left.length
 keep : ¬ s.clean → r.fe = s.fe ∧ r.fa = s.fa
 cnt : s.st ≤ r.st ∧ r.st + (r.left.length : Int) ≤ s.st + (s.left.length : Int)
theorem to.refl {s : PS} (h : s.good) : s.to s := ⟨h, Nat.le_refl _, fun _ => ⟨rfl, rfl⟩, Int.le_refl _, Int.le_refl _⟩
theorem to.trans {s r t : PS} (h : s.to r) (k : r.to t) : s.to t :=
 ⟨k.good, Nat.le_trans k.len h.len, fun hc => by
  have h1 := h.keep hc
  have h2 : ¬ r.clean := by unfold clean at hc ⊢; rw [h1.1, h1.2]; exact hc
  have h3 := k.keep h2
  exact ⟨h3.1.trans h1.1, h3.2.trans h1.2⟩, by have := h.cnt; have := k.cnt; omega⟩
theorem to.dirty {s r : PS} (h : s.to r) (hc : ¬ s.clean) : ¬ r.clean := by
 have h1 := h.keep hc
 unfold clean at hc ⊢; rw [h1.1, h1.2]; exact hc
theorem to.clean {s r : PS} (h : s.to r) (hc : r.clean) : s.clean := Decidable.byContradiction fun h1 => h.dirty h1 hc
theorem good.pos {s : PS} (h : s.good) : 1 ≤ s.left.length := by
 have := List.length_pos_iff.2 h.ne
 omega
theorem good.cons {s : PS} (h : s.good) : ∃ w l, s.left = w :: l := by
 cases hl : s.left with
 | nil => exact absurd hl h.ne
 | cons w l => exact ⟨w, l, rfl⟩
theorem good.head0 {s : PS} (h : s.good) (h1 : s.left.length = 1) : s.head.kind = 0 := by
 obtain ⟨w, l, hl⟩ := h.cons
 have h0 := h.last
 rw [hl] at h0 h1
 have : l = [] := List.eq_nil_of_length_eq_zero (by simpa using h1)
 subst this
 unfold head
 rw [hl]
 exact h0 (by simp)
theorem good.two {s : PS} (h : s.good) (hk : s.head.kind ≠ 0) : 1 < s.left.length := by
 have := h.pos
 rcases Nat.lt_or_ge 1 s.left.length with h1 | h1
 ·exact h1
 ·exact absurd (h.head0 (by omega)) hk
theorem good.tidy {s : PS} (h : s.good) (hk : s.head.kind ≠ 0) : s.clean := Decidable.byContradiction fun hc => by
 have := h.fault hc
 have := h.two hk
 omega
theorem sees_kind {s : PS} {l : List (List UInt8)} {t : List UInt8} (h : s.sees l = some t) : s.head.kind ≠ 0 ∧ t = s.head.s ∧ t ∈ l := by
 unfold sees at h
 split at h
 ·rename_i h1
  cases h
  exact ⟨by rcases h1.1 with h | h <;> omega, rfl, h1.2⟩
 ·cases h
theorem skip_two {s : PS} (h : 1 < s.left.length) : s.skip = ⟨s.left.tail, s.fe, s.fa, s.st, false⟩ := by
 unfold skip
 rw [if_pos h]
theorem skip_good {s : PS} (h : s.good) (hk : s.head.kind ≠ 0) : s.skip.good ∧ s.skip.left.length + 1 = s.left.length ∧ s.skip.clean := by
 have h2 := h.two hk
 have hc := h.tidy hk
 rw [skip_two h2]
 obtain ⟨w, l, hl⟩ := h.cons
 have h0 := h.last
 have hlen := h.len
 rw [hl] at h0 h2 hlen
 rw [hl]
 simp only [List.length_cons, List.tail_cons] at h2 hlen ⊢
 have hne : l ≠ [] := fun e => by subst e; simp at h2
 refine ⟨⟨hne, fun hh => ?_, fun hc' => absurd hc hc', by show l.length ≤ 4097; omega⟩, trivial, hc⟩
 have := h0 (by simp)
 rw [List.getLast_cons hne] at this
 exact this
theorem fail_to {s : PS} (h : s.good) {e : Int} (he : e ≠ 0) (w : Wx) : s.to (s.fail e w) := by
 have := h.pos
 refine ⟨⟨by simp [fail], fun _ => rfl, fun _ => rfl, by simp [fail]⟩, by simp [fail]; omega, fun hc => ?_, by simp [fail]; omega⟩
 simp [fail, if_neg hc]
theorem fail_dirty {s : PS} {e : Int} (he : e ≠ 0) (w : Wx) : ¬ (s.fail e w).clean := by
 intro h
 have h1 : (if s.clean then e else s.fe) = 0 := h.1
 have h2 : (if s.clean then w.a else s.fa) = 0 := h.2
 by_cases hc : s.clean
 ·rw [if_pos hc] at h1; exact he h1
 ·rw [if_neg hc] at h1 h2; exact hc ⟨h1, h2⟩
theorem skip_to {s : PS} (h : s.good) (hk : s.head.kind ≠ 0) : s.to s.skip := by
 have h1 := skip_good h hk
 have h3 : s.skip.st = s.st := by unfold skip; split <;> rfl
 exact ⟨h1.1, by omega, fun hc => absurd (h.tidy hk) hc, by rw [h3]; omega⟩
theorem takes_some {s : PS} (h : s.good) {l : List (List UInt8)} {t : List UInt8} {r : PS} (ht : s.takes l = (some t, r)) : r = s.skip ∧ s.sees l = some t ∧ s.to r ∧ r.left.length + 1 = s.left.length ∧ r.clean ∧ s.clean := by
 unfold takes at ht
 split at ht
 ·rename_i x hx
  cases ht
  have hk := (sees_kind hx).1
  have h1 := skip_good h hk
  exact ⟨rfl, hx, skip_to h hk, h1.2.1, h1.2.2, h.tidy hk⟩
 ·cases ht
theorem takes_none {s : PS} {l : List (List UInt8)} {r : PS} (ht : s.takes l = (none, r)) : r = s ∧ s.sees l = none := by
 unfold takes at ht
 split at ht
 ·cases ht
 ·rename_i hx
  cases ht
  exact ⟨rfl, hx⟩
theorem takes_to {s : PS} (h : s.good) (l : List (List UInt8)) : s.to (s.takes l).2 := by
 obtain ⟨o, r, hr⟩ : ∃ o r, s.takes l = (o, r) := ⟨_, _, rfl⟩
 rw [hr]
 cases o with
 | none => rw [(takes_none hr).1]; exact to.refl h
 | some t => exact (takes_some h hr).2.2.1
theorem wants_to {s : PS} (h : s.good) (t : List UInt8) : s.to (s.wants t) := by
 unfold wants
 obtain ⟨o, r, hr⟩ : ∃ o r, s.takes [t] = (o, r) := ⟨_, _, rfl⟩
 rw [hr]
 cases o with
 | none => obtain ⟨rfl, _⟩ := takes_none hr; exact fail_to h (by omega) _
 | some u => exact (takes_some h hr).2.2.1
theorem of_to {s : PS} (h : s.good) (k : Int) : s.to (s.of k).2 := by
 unfold of
 split
 ·exact fail_to h (by omega) _
 ·by_cases hk : s.head.kind = 0
  ·show s.to s.skip
   by_cases h2 : 1 < s.left.length
   ·rw [skip_two h2]
    obtain ⟨w, l, hl⟩ := h.cons
    have h0 := h.last
    have hlen := h.len
    have hf := h.fault
    rw [hl] at h0 h2 hlen hf
    rw [hl]
    simp only [List.length_cons, List.tail_cons] at h2 hlen hf ⊢
    have hne : l ≠ [] := fun e => by subst e; simp at h2
    refine ⟨⟨hne, fun hh => ?_, fun hc' => ?_, by show l.length ≤ 4097; omega⟩, by rw [hl]; simp, fun _ => ⟨rfl, rfl⟩, Int.le_refl _, by rw [hl]; simp only [List.length_cons]; omega⟩
    ·have := h0 (by simp)
     rw [List.getLast_cons hne] at this
     exact this
    ·have := hf hc'
     show l.length = 1
     omega
   ·have : s.skip = s := by unfold skip; rw [if_neg h2]
    rw [this]; exact to.refl h
  ·exact skip_to h hk
end PS
open PS
def Goes' {α : Type} (f : PS → α × PS) : Prop := ∀ s : PS, s.good → s.to (f s).2
theorem chainP_to {part : PF} (hp : Goes' part) (signs : List (List UInt8)) : ∀ (n : Nat) (x : Ex), Goes' (chainP part signs n x)
 | 0, x => fun s h => to.refl h
 | n + 1, x => fun s h => by
  unfold chainP
  obtain ⟨o, r, hr⟩ : ∃ o r, s.takes signs = (o, r) := ⟨_, _, rfl⟩
  rw [hr]
  cases o with
  | none => obtain ⟨rfl, _⟩ := takes_none hr; exact to.refl h
  | some t =>
   have h1 := (takes_some h hr).2.2.1
   have h2 := hp r h1.good
   exact h1.trans (h2.trans (chainP_to hp signs n _ _ h2.good))
theorem chain_to {part : PF} (hp : Goes' part) (signs : List (List UInt8)) (n : Nat) : Goes' (chain part signs n) := fun s h => (hp s h).trans (chainP_to hp signs n _ _ (hp s h).good)
theorem innerP_to {ex : PF} (he : Goes' ex) : Goes' (innerP ex) := fun s h => by
 have h1 := wants_to h gLp
 have h2 := he _ h1.good
 exact (h1.trans h2).trans (wants_to h2.good gRp)
theorem partP_to {ex : PF} (he : Goes' ex) : Goes' (partP ex) := fun s h => by
 unfold partP
 split
 ·exact skip_to h (by omega)
 ·split
  ·exact skip_to h (by omega)
  ·split
   ·exact skip_to h (by omega)
   ·split
    ·exact innerP_to he s h
    ·obtain ⟨o, r, hr⟩ : ∃ o r, s.takes [kTrue, kFalse, kExists, kSize, kRead] = (o, r) := ⟨_, _, rfl⟩
     rw [hr]
     cases o with
     | none => obtain ⟨rfl, _⟩ := takes_none hr; exact fail_to h (by omega) _
     | some t =>
      have h1 := (takes_some h hr).2.2.1
      dsimp only
      split
      ·exact h1
      ·split
       ·exact h1
       ·exact h1.trans (innerP_to he r h1.good)
theorem sumP_to {ex : PF} (he : Goes' ex) : Goes' (sumP ex) := chain_to (partP_to he) _ _
theorem cmpP_to {ex : PF} (he : Goes' ex) : Goes' (cmpP ex) := chain_to (sumP_to he) _ _
theorem notP_to {ex : PF} (he : Goes' ex) : ∀ n, Goes' (notP ex n)
 | 0 => cmpP_to he
 | n + 1 => fun s h => by
  unfold notP
  obtain ⟨o, r, hr⟩ : ∃ o r, s.takes [kNot] = (o, r) := ⟨_, _, rfl⟩
  rw [hr]
  cases o with
  | none => obtain ⟨rfl, _⟩ := takes_none hr; exact cmpP_to he _ h
  | some t =>
   have h1 := (takes_some h hr).2.2.1
   exact h1.trans (notP_to he n r h1.good)
theorem bothP_to {ex : PF} (he : Goes' ex) (n : Nat) : Goes' (bothP ex n) := chain_to (notP_to he n) _ _
theorem orP_to {ex : PF} (he : Goes' ex) (n : Nat) : Goes' (orP ex n) := chain_to (bothP_to he n) _ _
theorem exprP_to : ∀ n, Goes' (exprP n)
 | 0 => fun s h => to.refl h
 | n + 1 => orP_to (exprP_to n) n
theorem wholeP_to (t : List UInt8) (n : Nat) : Goes' (wholeP t n) := fun s h => by
 have h1 := exprP_to n s h
 unfold wholeP
 dsimp only
 split
 ·exact h1
 ·split
  ·exact h1.trans (fail_to h1.good (by omega) _)
  ·split
   ·exact h1.trans (fail_to h1.good (by omega) _)
   ·exact h1
theorem exprsG_to (n : Nat) : ∀ (k : Nat) (l : List Ex), Goes' (exprsG n k l)
 | 0, l => fun s h => to.refl h
 | k + 1, l => fun s h => by
  unfold exprsG
  dsimp only
  have h1 := wholeP_to (if k = 0 then gSe else gCo) n s h
  have h2 := wants_to h1.good (if k = 0 then gSe else gCo)
  exact (h1.trans h2).trans (exprsG_to n k _ _ h2.good)
theorem exprsP_to (n : Nat) (op : Int) : Goes' (exprsP n op) := fun s h => by
 unfold exprsP
 split
 ·exact wants_to h _
 ·exact exprsG_to n _ _ s h
theorem blockG_to {stm : PS → Sm × PS} (hs : Goes' stm) : ∀ (k : Nat) (l : List Sm), Goes' (blockG stm k l)
 | 0, l => fun s h => to.refl h
 | k + 1, l => fun s h => by
  unfold blockG
  split
  ·exact to.refl h
  ·obtain ⟨o, r, hr⟩ : ∃ o r, s.takes [gRb] = (o, r) := ⟨_, _, rfl⟩
   rw [hr]
   cases o with
   | none =>
    obtain ⟨rfl, _⟩ := takes_none hr
    exact (hs _ h).trans (blockG_to hs k _ _ (hs _ h).good)
   | some t => exact (takes_some h hr).2.2.1
theorem blockP_to {stm : SF} {deep : Int} (hs : Goes' (stm deep)) (n : Nat) : Goes' (blockP stm n deep) := fun s h =>
 (wants_to h gLb).trans (blockG_to hs n _ _ (wants_to h gLb).good)
theorem txnG_to {stm : PS → Sm × PS} (hs : Goes' stm) : ∀ (k : Nat) (l : List Sm), Goes' (txnG stm k l)
 | 0, l => fun s h => by
  unfold txnG
  split
  ·exact fail_to h (by omega) _
  ·exact to.refl h
 | k + 1, l => fun s h => by
  unfold txnG
  split
  ·exact (hs _ h).trans (txnG_to hs k _ _ (hs _ h).good)
  ·exact to.refl h
theorem txnP_to {stm : SF} {deep : Int} (hs : Goes' (stm (deep + 1))) (n : Nat) : Goes' (txnP stm n deep) := fun s h => by
 unfold txnP
 dsimp only
 have h1 := wholeP_to gLb n s h
 have h2 := h1.trans (wants_to h1.good gLb)
 have h3 := h2.trans (txnG_to hs 8 [] _ h2.good)
 have h4 := h3.trans (wants_to h3.good gRb)
 have h5 := h4.trans (takes_to h4.good [kCommit])
 exact h5.trans (wants_to h5.good gSe)
theorem loopP_to {stm : SF} {deep : Int} (hs : Goes' (stm (deep + 1))) (n : Nat) : Goes' (loopP stm n deep) := fun s h => by
 unfold loopP
 dsimp only
 have h1 := of_to h 2
 have h2 : s.to (if 16 < (s.of 2).1.n then (s.of 2).2.fail 14 (s.of 2).1 else (s.of 2).2) := by
  split
  ·exact h1.trans (fail_to h1.good (by omega) _)
  ·exact h1
 exact h2.trans (blockP_to hs n _ h2.good)
theorem choiceP_to {stm : SF} {deep : Int} (hs : Goes' (stm (deep + 1))) (n : Nat) : Goes' (choiceP stm n deep) := fun s h => by
 unfold choiceP
 dsimp only
 have h1 := wholeP_to gLb n s h
 have h2 := h1.trans (blockP_to hs n _ h1.good)
 obtain ⟨o, r, hr⟩ : ∃ o r, (blockP stm n (deep + 1) (wholeP gLb n s).2).2.takes [kElse] = (o, r) := ⟨_, _, rfl⟩
 rw [hr]
 cases o with
 | none => obtain ⟨rfl, _⟩ := takes_none hr; exact h2
 | some t =>
  have h3 := h2.trans (takes_some h2.good hr).2.2.1
  exact h3.trans (blockP_to hs n _ h3.good)
theorem letP_to (n : Nat) : Goes' (letP n) := fun s h => by
 unfold letP
 dsimp only
 have h1 := of_to h 1
 have h2 := h1.trans (wants_to h1.good [61])
 exact h2.trans (exprsP_to n 12 _ h2.good)
theorem callP_to (n : Nat) : Goes' (callP n) := fun s h => by
 unfold callP
 dsimp only
 have h1 := of_to h 1
 exact h1.trans (exprsP_to n 15 _ h1.good)
theorem st_good {s : PS} (h : s.good) (k : Int) : PS.good ⟨s.left, s.fe, s.fa, k, s.o⟩ := ⟨h.ne, h.last, h.fault, h.len⟩
theorem st_skip {s : PS} (h : s.good) (hk : s.head.kind ≠ 0) : s.to (PS.skip ⟨s.left, s.fe, s.fa, s.st + 1, s.o⟩) := by
 have h2 := h.two hk
 have h1 := skip_to (st_good h (s.st + 1)) hk
 have e : PS.skip ⟨s.left, s.fe, s.fa, s.st + 1, s.o⟩ = ⟨s.left.tail, s.fe, s.fa, s.st + 1, false⟩ := skip_two h2
 refine ⟨h1.good, h1.len, h1.keep, ?_⟩
 rw [e]
 simp only [List.length_tail]
 omega
theorem st_fail {s : PS} (h : s.good) (hk : s.head.kind ≠ 0) {e : Int} (he : e ≠ 0) (w : Wx) : s.to (PS.fail ⟨s.left, s.fe, s.fa, s.st + 1, s.o⟩ e w) := by
 have h2 := h.two hk
 have h1 := fail_to (st_good h (s.st + 1)) he w
 refine ⟨h1.good, h1.len, h1.keep, ?_⟩
 simp only [fail, List.length_singleton]
 omega
theorem simple_kind {w : Wx} (h : (simpleP w).isNone = false) : w.kind ≠ 0 := by
 intro hk
 unfold simpleP at h
 rw [if_neg (by omega)] at h
 cases h
theorem stmtB_to {stm : SF} (hs : ∀ d, Goes' (stm d)) (n : Nat) (deep : Int) : Goes' (stmtB stm n deep) := fun s h => by
 unfold stmtB
 dsimp only
 split
 ·exact fail_to h (by omega) _
 ·rename_i hno
  have hk : s.head.kind ≠ 0 := by
   cases ho : s.sees [kLet, kCall, kIf, kRepeat, kTxn] with
   | some t => exact (sees_kind ho).1
   | none =>
    refine simple_kind ?_
    cases hq : (simpleP s.head).isNone with
    | false => rfl
    | true => exact absurd ⟨hq, by rw [ho]; rfl⟩ hno
  split
  ·exact st_fail h hk (by omega) _
  ·have h1 := st_skip h hk
   split
   ·exact h1.trans (exprsP_to n _ _ h1.good)
   ·split
    ·exact h1.trans (letP_to n _ h1.good)
    ·split
     ·exact h1.trans (callP_to n _ h1.good)
     ·split
      ·exact h1.trans (choiceP_to (hs _) n _ h1.good)
      ·split
       ·exact h1.trans (loopP_to (hs _) n _ h1.good)
       ·exact h1.trans (txnP_to (hs _) n _ h1.good)
theorem stmtP_to : ∀ (n : Nat) (deep : Int), Goes' (stmtP n deep)
 | 0, _ => fun s h => to.refl h
 | n + 1, deep => stmtB_to (stmtP_to n) n deep
set_option linter.unusedVariables false
set_option linter.unusedSimpArgs false
set_option maxHeartbeats 1000000
def wrows (l : List Wx) : List (List V) := l.map Wx.cells
def PS.lv (s : PS) : V := if s.o then .own 4 (wrows s.left) else .sl 4 (wrows s.left)
def PS.cells (s : PS) : List V := [s.lv, iw s.fe, iw s.fa, iw s.st]
theorem lv_or (s : PS) : s.lv = .own 4 (wrows s.left) ∨ s.lv = .sl 4 (wrows s.left) := by unfold PS.lv; split <;> simp
def Hp (HB : Heap) (i : Nat) (s : PS) : Heap := HB.set i (some s.cells)
section
variable {HB : Heap} {i : Nat}
theorem Hp_len (s : PS) : (Hp HB i s).length = HB.length := by simp [Hp]
theorem Hp_at (hi : i < HB.length) (s : PS) : (Hp HB i s)[i]? = some (some s.cells) := List.getElem?_set_self hi
theorem Hp_push (hi : i < HB.length) (s : PS) (r : Heap) : Hp HB i s ++ r = Hp (HB ++ r) i s := by
 unfold Hp
 rw [List.set_append_left _ _ hi]
theorem gHp (hi : i < HB.length) (s : PS) (r : Heap) : (Hp HB i s ++ r)[i]? = some (some s.cells) := by
 rw [List.getElem?_append_left (by rw [Hp_len]; exact hi)]; exact Hp_at hi s
theorem sHp (hi : i < HB.length) (s t : PS) (r : Heap) : (Hp HB i s ++ r).set i (some t.cells) = Hp HB i t ++ r := by
 rw [List.set_append_left _ _ (by rw [Hp_len]; exact hi)]
 simp [Hp]
theorem gHp0 (s : PS) (x : Option (List V)) (r : Heap) : (Hp HB i s ++ x :: r)[HB.length]? = some x := by
 have := get0 (Hp HB i s) x r
 rwa [Hp_len] at this
theorem gHp1 (s : PS) (a x : Option (List V)) (r : Heap) : (Hp HB i s ++ a :: x :: r)[HB.length + 1]? = some x := by
 have := get1 (Hp HB i s) a x r
 rwa [Hp_len] at this
theorem sHp0 (s : PS) (x y : Option (List V)) (r : Heap) : (Hp HB i s ++ x :: r).set HB.length y = Hp HB i s ++ y :: r := by
 have := set0 (Hp HB i s) x y r
 rwa [Hp_len] at this
theorem sHp1 (s : PS) (a x y : Option (List V)) (r : Heap) : (Hp HB i s ++ a :: x :: r).set (HB.length + 1) y = Hp HB i s ++ a :: y :: r := by
 have := set1 (Hp HB i s) a x y r
 rwa [Hp_len] at this
theorem tHp (s : PS) (r : Heap) : (Hp HB i s ++ r).take HB.length = Hp HB i s := by
 rw [List.take_append_of_le_length (by rw [Hp_len]; exact Nat.le_refl _), List.take_of_length_le (by rw [Hp_len]; exact Nat.le_refl _)]
theorem phead_eq (hi : i < HB.length) {s : PS} (hs : s.left ≠ []) (r : Heap) : eval tbl noExt n_pw_head [.ptr i 0] (Hp HB i s ++ r) = some (.agg s.head.cells, Hp HB i s ++ r) := by
 rw [Hp_push hi]
 have hi' : i < (HB ++ r).length := by simp; omega
 generalize HB ++ r = HB at hi'
 obtain ⟨w, l, hl⟩ : ∃ w l, s.left = w :: l := by
  cases h : s.left with
  | nil => exact absurd h hs
  | cons w l => exact ⟨w, l, rfl⟩
 have hg := fun r => gHp hi' s r
 have hst := lv_or s
 have hw : s.head = w := by unfold PS.head; rw [hl]; rfl
 rw [hl] at hst
 have hwc : w.cells = [iw w.kind, .str w.s, iw w.n, iw w.a] := rfl
 rw [hw]
 unfold PS.cells at hg
 rw [eval_M rfl rfl t_pw_head rfl]
 rcases hst with hst | hst <;> rw [hst] at hg <;> simp [c_pw_head, hg, wrows, hwc, Hp_len, gHp0, gHp1, sHp0, sHp1, tHp]
theorem pfail_eq (hi : i < HB.length) (s : PS) (e : Int) (w : Wx) (r : Heap) : eval tbl noExt n_pw_fail [.ptr i 0, .int .i64 e, .agg w.cells] (Hp HB i s ++ r) = some (.tup [], Hp HB i (s.fail e w) ++ r) := by
 rw [Hp_push hi, Hp_push hi]
 have hi' : i < (HB ++ r).length := by simp; omega
 generalize HB ++ r = HB at hi'
 have hg := fun r => gHp hi' s r
 have hst := lv_or s
 have hwc : w.cells = [iw w.kind, .str w.s, iw w.n, iw w.a] := rfl
 have hset : ∀ x r, (Hp HB i s ++ r).set i x = HB.set i x ++ r := fun x r => by
  rw [List.set_append_left _ _ (by rw [Hp_len]; exact hi')]
  simp [Hp]
 have hT : ∀ x r, (HB.set i x ++ r).take HB.length = HB.set i x := fun x r => by
  rw [List.take_append_of_le_length (by simp), List.take_of_length_le (by simp)]
 have hG : ∀ x r, (HB.set i x ++ r)[i]? = some x := fun x r => by
  rw [List.getElem?_append_left (by simp; omega), List.getElem?_set_self hi']
 have hS : ∀ x y r, (HB.set i x ++ r).set i y = HB.set i y ++ r := fun x y r => by
  rw [List.set_append_left _ _ (by simp; omega), List.set_set]
 unfold PS.cells at hg
 rw [eval_M rfl rfl t_pw_fail rfl]
 by_cases hc : s.clean
 ·have hf : s.fail e w = ⟨[zw], e, w.a, s.st, true⟩ := by simp [PS.fail, hc]
  obtain ⟨c1, c2⟩ := hc
  rw [hf]
  rw [c1, c2] at hg
  rcases hst with hst | hst <;> rw [hst] at hg <;> simp [c_pw_fail, hg, wrows, hwc, Hp_len, gHp0, gHp1, sHp0, sHp1, hset, hT, hG, hS, eqCells] <;> rfl
 ·have hf : s.fail e w = ⟨[zw], s.fe, s.fa, s.st, true⟩ := by simp [PS.fail, hc]
  have hc' : (decide (s.fe = 0) && decide (s.fa = 0)) = false := by
   rw [Bool.eq_false_iff]; intro h
   simp only [Bool.and_eq_true, decide_eq_true_eq] at h
   exact hc h
  rw [hf]
  rcases hst with hst | hst <;> rw [hst] at hg <;> simp [c_pw_fail, hg, wrows, hwc, Hp_len, gHp0, gHp1, sHp0, sHp1, hset, hT, hG, hS, eqCells, hc'] <;> rfl
theorem pskip_eq (hi : i < HB.length) {s : PS} (hs : s.left ≠ []) (r : Heap) : eval tbl noExt n_pw_skip [.ptr i 0] (Hp HB i s ++ r) = some (.agg s.head.cells, Hp HB i s.skip ++ r) := by
 rw [Hp_push hi, Hp_push hi]
 have hi' : i < (HB ++ r).length := by simp; omega
 generalize HB ++ r = HB at hi'
 obtain ⟨w, l, hl⟩ : ∃ w l, s.left = w :: l := by
  cases h : s.left with
  | nil => exact absurd h hs
  | cons w l => exact ⟨w, l, rfl⟩
 have hg := fun r => gHp hi' s r
 have hst := lv_or s
 have hw : s.head = w := by unfold PS.head; rw [hl]; rfl
 rw [hl] at hst
 have hwc : w.cells = [iw w.kind, .str w.s, iw w.n, iw w.a] := rfl
 have hset : ∀ x r, (Hp HB i s ++ r).set i x = HB.set i x ++ r := fun x r => by
  rw [List.set_append_left _ _ (by rw [Hp_len]; exact hi')]
  simp [Hp]
 have hT : ∀ x r, (HB.set i x ++ r).take HB.length = HB.set i x := fun x r => by
  rw [List.take_append_of_le_length (by simp), List.take_of_length_le (by simp)]
 have hl0 : ∀ x, (HB.set i x).length = HB.length := fun x => by simp
 have hG0 : ∀ x y r, (HB.set i x ++ y :: r)[HB.length]? = some y := fun x y r => by have := get0 (HB.set i x) y r; rwa [hl0] at this
 have hG1 : ∀ x z y r, (HB.set i x ++ z :: y :: r)[HB.length + 1]? = some y := fun x z y r => by have := get1 (HB.set i x) z y r; rwa [hl0] at this
 have hS0 : ∀ x y z r, (HB.set i x ++ y :: r).set HB.length z = HB.set i x ++ z :: r := fun x y z r => by have := set0 (HB.set i x) y z r; rwa [hl0] at this
 rw [hw]
 unfold PS.cells at hg
 rw [eval_M rfl rfl t_pw_skip rfl]
 by_cases h2 : l = []
 ·subst h2
  have hk : s.skip = s := by unfold PS.skip; rw [hl]; rfl
  rw [hk]
  rcases hst with hst | hst <;> rw [hst] at hg <;> simp [c_pw_skip, hg, wrows, hwc, Hp_len, gHp0, gHp1, sHp0, sHp1, tHp]
 ·have h3 : 0 < l.length := List.length_pos_iff.2 h2
  have hk : s.skip = ⟨l, s.fe, s.fa, s.st, false⟩ := by unfold PS.skip; rw [hl, if_pos (by simp; omega)]; rfl
  have h4 : (1 : Int) < (l.length : Int) + 1 := by omega
  have h5 : (1 : Int) ≤ (l.length : Int) + 1 := by omega
  have h6 : List.take l.length (l.map Wx.cells) = l.map Wx.cells := List.take_of_length_le (by simp)
  rw [hk]
  rcases hst with hst | hst <;> rw [hst] at hg <;> simp [c_pw_skip, hg, wrows, hwc, Hp_len, gHp0, gHp1, sHp0, sHp1, tHp, hset, hT, hG0, hG1, hS0, h3, h4, h5, h6] <;> rfl
theorem ar_suc (i : Nat) (hi : i ≤ 1000000) : arith .add .i64 (i : Int) 1 = some (.int .i64 ((i : Int) + 1)) := by
 show some (V.int .i64 _) = _
 rw [w64 (by omega) (by omega)]
def seesV (o : Option (List UInt8)) : V := .tup [.str (o.getD []), .bool o.isSome]
theorem sees_loop (K : Heap) (w : Wx) (some_ : List (List UInt8)) (h100 : some_.length ≤ 100) (k6 : Nat) (r6 : K[k6]? = some (some w.cells)) (Q : Option (V × Heap) → Prop) (kk : List Item)
  (hno : ∀ φ', w.s ∉ some_ → Q (M (eval tbl noExt) kk φ' K)) (hyes : ∀ φ', w.s ∈ some_ → Fr.get φ' 4 = .str w.s → Fr.get φ' 5 = .bool true → Q (retK kk φ' K)) :
  ∀ (n j : Nat) (φ : Fr), n + j = some_.length → (∀ x ∈ some_.take j, x ≠ w.s) → Fr.get φ 6 = .ptr k6 0 → Fr.get φ 19 = .sl 1 (some_.map tx) → Fr.get φ 20 = .int .i64 some_.length → Fr.get φ 21 = .int .i64 j → Q (M (eval tbl noExt) (.code l_pw_sees_0 :: .blk 0 :: kk) φ K) := by
 intro n
 induction n with
 | zero =>
  intro j φ hj hx h6 h19 h20 h21
  have hlt : ¬ (j : Int) < some_.length := by omega
  have hlt' : ¬ j < some_.length := by omega
  rw [List.take_of_length_le (by omega)] at hx
  rw [l_pw_sees_0, M_loop]
  simp [b_pw_sees_0, h6, h19, h20, h21, hlt, hlt']
  exact hno _ (fun h => hx _ h rfl)
 | succ n ih =>
  intro j φ hj hx h6 h19 h20 h21
  have hlt : (j : Int) < some_.length := by omega
  have hlt' : j < some_.length := by omega
  have A6 := ar_suc j (by omega)
  have hwc : w.cells = [iw w.kind, .str w.s, iw w.n, iw w.a] := rfl
  obtain ⟨t, ht⟩ : ∃ t, t = some_[j] := ⟨_, rfl⟩
  have hg : ∀ h : j < some_.length, some_[j] = t := fun _ => ht.symm
  rw [hwc] at r6
  rw [l_pw_sees_0, M_loop, ← l_pw_sees_0]
  by_cases he : w.s = t
  ·simp [-arith, b_pw_sees_0, h6, h19, h20, h21, hlt, hlt', hg, r6, he, tx]
   refine hyes _ (by rw [he, ht]; exact List.getElem_mem _) ?_ ?_ <;> simp [he]
  ·simp [-arith, b_pw_sees_0, h6, h19, h20, h21, hlt, hlt', hg, r6, he, A6, tx]
   refine ih (j + 1) _ (by omega) ?_ ?_ ?_ ?_ ?_
   ·intro x hx'
    rw [List.take_add_one, List.getElem?_eq_getElem hlt', ← ht] at hx'
    simp only [Option.toList, List.mem_append, List.mem_singleton] at hx'
    rcases hx' with h | h
    ·exact hx x h
    ·subst h; exact fun h => he h.symm
   all_goals simp [h6, h19, h20]
theorem sees_eq (hi : i < HB.length) {s : PS} (hs : s.left ≠ []) (some_ : List (List UInt8)) (h100 : some_.length ≤ 100) {x : V} (hx : x = .sl 1 (some_.map tx) ∨ x = .own 1 (some_.map tx)) (r : Heap) : eval tbl noExt n_pw_sees [.ptr i 0, x] (Hp HB i s ++ r) = some (seesV (s.sees some_), Hp HB i s ++ r) := by
 have hH := fun r => phead_eq hi hs r
 rw [Hp_push hi] at *
 obtain ⟨w, hw⟩ : ∃ w, w = s.head := ⟨_, rfl⟩
 unfold PS.sees
 rw [← hw] at hH ⊢
 have hH2 : ∀ r', eval tbl noExt n_pw_head [.ptr i 0] (Hp (HB ++ r) i s ++ r') = some (.agg w.cells, Hp (HB ++ r) i s ++ r') := fun r' => by
  rw [← Hp_push hi, List.append_assoc]
  exact hH (r ++ r')
 have hi' : i < (HB ++ r).length := by simp; omega
 clear hH
 generalize HB ++ r = HB at hi' hH2
 have hwc : w.cells = [iw w.kind, .str w.s, iw w.n, iw w.a] := rfl
 have hH3 := hH2 []
 rw [List.append_nil] at hH3
 rw [eval_M rfl rfl t_pw_sees rfl]
 have hloop := fun φ => sees_loop (Hp HB i s ++ [some w.cells]) w some_ h100 HB.length (gHp0 s _ []) (fun R => R = some (seesV (if w.s ∈ some_ then some w.s else none), Hp HB i s)) [.code r_pw_sees_0, .fin [.t 4, .t 5] HB.length]
  (fun φ' h => by simp [r_pw_sees_0, h, seesV, tHp])
  (fun φ' h h4 h5 => by simp [h, h4, h5, seesV, tHp]) some_.length 0 φ rfl (by simp)
 rcases hx with rfl | rfl
 all_goals
  by_cases h4 : w.kind = 4
  ·simp [c_pw_sees, hH3, hwc, gHp0, sHp0, Hp_len, h4]
   have := hloop
   rw [hwc] at this
   rw [h4] at this
   refine this _ ?_ ?_ ?_ ?_ <;> simp
  ·by_cases h5 : w.kind = 5
   ·simp [c_pw_sees, hH3, hwc, gHp0, sHp0, Hp_len, h5]
    have := hloop
    rw [hwc] at this
    rw [h5] at this
    refine this _ ?_ ?_ ?_ ?_ <;> simp
   ·simp [c_pw_sees, hH3, hwc, gHp0, sHp0, Hp_len, h4, h5, seesV, tHp]
theorem takes_eq (hi : i < HB.length) {s : PS} (hs : s.left ≠ []) (some_ : List (List UInt8)) (h100 : some_.length ≤ 100) {x : V} (hx : x = .sl 1 (some_.map tx) ∨ x = .own 1 (some_.map tx)) (r : Heap) : eval tbl noExt n_pw_takes [.ptr i 0, x] (Hp HB i s ++ r) = some (seesV (s.takes some_).1, Hp HB i (s.takes some_).2 ++ r) := by
 have h1 := fun r => sees_eq hi hs some_ h100 (.inl rfl) r
 have h2 := fun r => pskip_eq hi hs r
 have hl : (Hp HB i s ++ r).length = HB.length + r.length := by simp [Hp_len]
 have hl2 : (Hp HB i s.skip ++ r).take (HB.length + r.length) = Hp HB i s.skip ++ r := List.take_of_length_le (by simp [Hp_len])
 have hl3 : (Hp HB i s ++ r).take (HB.length + r.length) = Hp HB i s ++ r := List.take_of_length_le (by simp [Hp_len])
 rw [eval_M rfl rfl t_pw_takes rfl]
 unfold PS.takes
 cases ho : s.sees some_ with
 | none =>
  simp only [ho, seesV] at h1
  rcases hx with rfl | rfl <;> simp [c_pw_takes, h1, Hp_len, hl, hl3, seesV]
 | some t =>
  simp only [ho, seesV] at h1
  rcases hx with rfl | rfl <;> simp [c_pw_takes, h1, h2, Hp_len, hl, hl2, seesV]
theorem wants_eq (hi : i < HB.length) {s : PS} (hs : s.left ≠ []) (t : List UInt8) (r : Heap) : eval tbl noExt n_pw_wants [.ptr i 0, .str t] (Hp HB i s ++ r) = some (.tup [], Hp HB i (s.wants t) ++ r) := by
 have h1 := fun r => takes_eq hi hs [t] (by simp) (.inr rfl) r
 have h2 := fun r => phead_eq hi hs r
 have h3 := fun r => pfail_eq hi s 12 s.head r
 have hl : ∀ s, (Hp HB i s ++ r).length = HB.length + r.length := fun s => by simp [Hp_len]
 have hl3 : ∀ s, (Hp HB i s ++ r).take (HB.length + r.length) = Hp HB i s ++ r := fun s => List.take_of_length_le (by simp [Hp_len])
 rw [eval_M rfl rfl t_pw_wants rfl]
 obtain ⟨o, s', ho⟩ : ∃ o s', s.takes [t] = (o, s') := ⟨_, _, rfl⟩
 simp only [ho, List.map_cons, List.map_nil, tx] at h1
 unfold PS.wants
 rw [ho]
 cases o with
 | none =>
  obtain ⟨rfl, _⟩ := takes_none ho
  simp only [seesV] at h1
  simp [c_pw_wants, h1, h2, h3, Hp_len, hl, hl3]
 | some u =>
  simp only [seesV] at h1
  simp [c_pw_wants, h1, Hp_len, hl, hl3]
theorem of_eq (hi : i < HB.length) {s : PS} (hs : s.left ≠ []) (k : Int) (r : Heap) : eval tbl noExt n_pw_of [.ptr i 0, .int .i64 k] (Hp HB i s ++ r) = some (.agg (s.of k).1.cells, Hp HB i (s.of k).2 ++ r) := by
 obtain ⟨w, hw⟩ : ∃ w, w = s.head := ⟨_, rfl⟩
 have h1 := fun r => phead_eq hi hs r
 have h2 := fun r => pskip_eq hi hs r
 have h3 := fun r => pfail_eq hi s 12 s.head r
 unfold PS.of
 rw [← hw] at h1 h2 h3 ⊢
 have hwc : w.cells = [iw w.kind, .str w.s, iw w.n, iw w.a] := rfl
 have hzc : zw.cells = [iw 0, .str [], iw 0, iw 0] := rfl
 rw [hwc] at h1 h2 h3
 have hl : ∀ s, (Hp HB i s ++ r).length = HB.length + r.length := fun s => by simp [Hp_len]
 have hl3 : ∀ s t, (Hp HB i s ++ (r ++ t)).take (HB.length + r.length) = Hp HB i s ++ r := fun s t => by
  rw [← List.append_assoc, List.take_append_of_le_length (by simp [Hp_len]), List.take_of_length_le (by simp [Hp_len])]
 have g0 : ∀ s x t, (Hp HB i s ++ (r ++ x :: t))[HB.length + r.length]? = some x := fun s x t => by
  have := get0 (Hp HB i s ++ r) x t
  rwa [hl, List.append_assoc] at this
 have g1 : ∀ s x y t, (Hp HB i s ++ (r ++ x :: y :: t))[HB.length + r.length + 1]? = some y := fun s x y t => by
  have := get1 (Hp HB i s ++ r) x y t
  rwa [hl, List.append_assoc] at this
 have s0 : ∀ s x y t, (Hp HB i s ++ (r ++ x :: t)).set (HB.length + r.length) y = Hp HB i s ++ (r ++ y :: t) := fun s x y t => by
  have := set0 (Hp HB i s ++ r) x y t
  rwa [hl, List.append_assoc, List.append_assoc] at this
 have s1 : ∀ s x y z t, (Hp HB i s ++ (r ++ x :: y :: t)).set (HB.length + r.length + 1) z = Hp HB i s ++ (r ++ x :: z :: t) := fun s x y z t => by
  have := set1 (Hp HB i s ++ r) x y z t
  rwa [hl, List.append_assoc, List.append_assoc] at this
 rw [eval_M rfl rfl t_pw_of rfl]
 by_cases hk : w.kind = k
 ·rw [if_neg (by simpa using hk)]
  simp [c_pw_of, h1, h2, Hp_len, hl, hl3, g0, g1, s0, s1, hk, hwc]
 ·rw [if_pos hk]
  simp [c_pw_of, h1, h3, Hp_len, hl, hl3, g0, g1, s0, s1, hk, hwc, hzc]
@[simp] theorem hLen (s : PS) (r : Heap) : (Hp HB i s ++ r).length = HB.length + r.length := by simp [Hp_len]
@[simp] theorem hTk (s : PS) (r t : Heap) : (Hp HB i s ++ (r ++ t)).take (HB.length + r.length) = Hp HB i s ++ r := by
 rw [← List.append_assoc, List.take_append_of_le_length (by simp [Hp_len]), List.take_of_length_le (by simp [Hp_len])]
@[simp] theorem hTk' (s : PS) (r : Heap) : (Hp HB i s ++ r).take (HB.length + r.length) = Hp HB i s ++ r := List.take_of_length_le (by simp [Hp_len])
@[simp] theorem hG0 (s : PS) (r : Heap) (x : Option (List V)) (t : Heap) : (Hp HB i s ++ (r ++ x :: t))[HB.length + r.length]? = some x := by
 have := get0 (Hp HB i s ++ r) x t
 rwa [hLen, List.append_assoc] at this
@[simp] theorem hG1 (s : PS) (r : Heap) (x y : Option (List V)) (t : Heap) : (Hp HB i s ++ (r ++ x :: y :: t))[HB.length + r.length + 1]? = some y := by
 have := get1 (Hp HB i s ++ r) x y t
 rwa [hLen, List.append_assoc] at this
@[simp] theorem hG2 (s : PS) (r : Heap) (x y z : Option (List V)) (t : Heap) : (Hp HB i s ++ (r ++ x :: y :: z :: t))[HB.length + r.length + 2]? = some z := by
 rw [List.getElem?_append_right (by rw [Hp_len]; omega), Hp_len, List.getElem?_append_right (by omega)]
 have : HB.length + r.length + 2 - HB.length - r.length = 2 := by omega
 rw [this]; rfl
@[simp] theorem hS0 (s : PS) (r : Heap) (x y : Option (List V)) (t : Heap) : (Hp HB i s ++ (r ++ x :: t)).set (HB.length + r.length) y = Hp HB i s ++ (r ++ y :: t) := by
 have := set0 (Hp HB i s ++ r) x y t
 rwa [hLen, List.append_assoc, List.append_assoc] at this
@[simp] theorem hS1 (s : PS) (r : Heap) (x y z : Option (List V)) (t : Heap) : (Hp HB i s ++ (r ++ x :: y :: t)).set (HB.length + r.length + 1) z = Hp HB i s ++ (r ++ x :: z :: t) := by
 have := set1 (Hp HB i s ++ r) x y z t
 rwa [hLen, List.append_assoc, List.append_assoc] at this
@[simp] theorem hS2 (s : PS) (r : Heap) (x y z u : Option (List V)) (t : Heap) : (Hp HB i s ++ (r ++ x :: y :: z :: t)).set (HB.length + r.length + 2) u = Hp HB i s ++ (r ++ x :: y :: u :: t) := by
 rw [List.set_append_right _ _ (by rw [Hp_len]; omega), Hp_len, List.set_append_right _ _ (by omega)]
 have : HB.length + r.length + 2 - HB.length - r.length = 2 := by omega
 rw [this]; rfl
@[simp] theorem hG1' (s : PS) (r : Heap) (x y : Option (List V)) (t : Heap) : (Hp HB i s ++ (r ++ x :: y :: t))[HB.length + (r.length + 1)]? = some y := hG1 s r x y t
@[simp] theorem hG2' (s : PS) (r : Heap) (x y z : Option (List V)) (t : Heap) : (Hp HB i s ++ (r ++ x :: y :: z :: t))[HB.length + (r.length + 2)]? = some z := hG2 s r x y z t
@[simp] theorem hG2'' (s : PS) (r : Heap) (x y z : Option (List V)) (t : Heap) : (Hp HB i s ++ (r ++ x :: y :: z :: t))[HB.length + (r.length + 1 + 1)]? = some z := hG2 s r x y z t
@[simp] theorem hS1' (s : PS) (r : Heap) (x y z : Option (List V)) (t : Heap) : (Hp HB i s ++ (r ++ x :: y :: t)).set (HB.length + (r.length + 1)) z = Hp HB i s ++ (r ++ x :: z :: t) := hS1 s r x y z t
@[simp] theorem hS2' (s : PS) (r : Heap) (x y z u : Option (List V)) (t : Heap) : (Hp HB i s ++ (r ++ x :: y :: z :: t)).set (HB.length + (r.length + 2)) u = Hp HB i s ++ (r ++ x :: y :: u :: t) := hS2 s r x y z u t
@[simp] theorem hS2'' (s : PS) (r : Heap) (x y z u : Option (List V)) (t : Heap) : (Hp HB i s ++ (r ++ x :: y :: z :: t)).set (HB.length + (r.length + 1 + 1)) u = Hp HB i s ++ (r ++ x :: y :: u :: t) := hS2 s r x y z u t
end
set_option maxHeartbeats 2000000
set_option maxRecDepth 10000
theorem pkind_eq (t : List UInt8) (H : Heap) : eval tbl noExt n_parse_kind [.str t] H = some (.int .i64 (opOf t), H) := by
 rw [eval_M rfl rfl t_parse_kind rfl]
 unfold opOf
 by_cases h1 : t = kExists
 ·subst h1; simp [c_parse_kind]
 by_cases h2 : t = kSize
 ·subst h2; simp [c_parse_kind]
 by_cases h3 : t = kRead
 ·subst h3; simp [c_parse_kind]
 by_cases h4 : t = kNot
 ·subst h4; simp [c_parse_kind]
 by_cases h5 : t = gPl
 ·subst h5; simp [c_parse_kind]
 by_cases h6 : t = gMi
 ·subst h6; simp [c_parse_kind]
 by_cases h7 : t = gEE
 ·subst h7; simp [c_parse_kind]
 by_cases h8 : t = gLt
 ·subst h8; simp [c_parse_kind]
 by_cases h9 : t = kAnd
 ·subst h9; simp [c_parse_kind]
 simp [c_parse_kind, h1, h2, h3, h4, h5, h6, h7, h8, h9]
def SpecP (n : Nat) (f : PF) (len : Nat) : Prop := ∀ (HB : Heap) (i : Nat), i < HB.length → ∀ s : PS, s.good → s.left.length ≤ len → ∀ r, eval tbl noExt n [.ptr i 0] (Hp HB i s ++ r) = some (.agg (f s).1.cells, Hp HB i (f s).2 ++ r)
theorem Ex.cells_mk (op n : Int) (s : List UInt8) (x : List Ex) : (Ex.mk op n s x).cells = [.int .i64 op, .int .i64 n, .str s, .sl 4 (Ex.rows x)] := rfl
theorem inner_eq {ex : PF} {len : Nat} (hto : Goes' ex) (hex : SpecP n_pp_expr ex len) {HB : Heap} {i : Nat} (hi : i < HB.length) {s : PS} (hs : s.good) (hl : (s.wants gLp).left.length ≤ len) (r : Heap) :
  eval tbl noExt n_pp_inner [.ptr i 0] (Hp HB i s ++ r) = some (.agg (innerP ex s).1.cells, Hp HB i (innerP ex s).2 ++ r) := by
 have g1 := wants_to hs gLp
 have g2 := hto _ g1.good
 have h1 := fun r => wants_eq hi hs.ne gLp r
 have h2 := fun r => hex HB i hi _ g1.good hl r
 have h3 := fun r => wants_eq hi g2.good.ne gRp r
 unfold innerP
 generalize s.wants gLp = s1 at *
 obtain ⟨y, s2, hy⟩ : ∃ y s2, ex s1 = (y, s2) := ⟨_, _, rfl⟩
 simp only [hy] at g2 h2 h3 ⊢
 obtain ⟨o, n, t, l⟩ := y
 simp only [Ex.cells_mk] at h2 ⊢
 rw [eval_M rfl rfl t_pp_inner rfl]
 simp [c_pp_inner, h1, h2, h3, Hp_len]
theorem ppart_eq {ex : PF} {len : Nat} (hto : Goes' ex) (hex : SpecP n_pp_expr ex len) : SpecP n_pp_part (partP ex) (len + 1) := by
 intro HB i hi s hs hl r
 obtain ⟨w, hw⟩ : ∃ w, w = s.head := ⟨_, rfl⟩
 have h1 := fun r => phead_eq hi hs.ne r
 have h2 := fun r => pskip_eq hi hs.ne r
 have h3 := fun r => pfail_eq hi s 12 s.head r
 have h4 := fun r => sees_eq hi hs.ne [gLp] (by simp) (.inr rfl) r
 have h5 := fun r => takes_eq hi hs.ne [kTrue, kFalse, kExists, kSize, kRead] (by simp) (.inr rfl) r
 have hwc : w.cells = [iw w.kind, .str w.s, iw w.n, iw w.a] := rfl
 have hr0 : Ex.rows [] = [] := rfl
 simp only [List.map_cons, List.map_nil, tx] at h4 h5
 unfold partP
 rw [← hw] at h1 h2 h3 ⊢
 rw [hwc] at h1 h2 h3
 rw [eval_M rfl rfl t_pp_part rfl]
 by_cases k2 : w.kind = 2
 ·rw [if_pos k2]
  simp [c_pp_part, h1, h2, Hp_len, k2, hr0, Ex.cells_mk]
 rw [if_neg k2]
 by_cases k3 : w.kind = 3
 ·rw [if_pos k3]
  simp [c_pp_part, h1, h2, Hp_len, k3, hr0, Ex.cells_mk]
 rw [if_neg k3]
 by_cases k1 : w.kind = 1
 ·rw [if_pos k1]
  simp [c_pp_part, h1, h2, Hp_len, k1, hr0, Ex.cells_mk]
 rw [if_neg k1]
 cases ho : s.sees [gLp] with
 | some t =>
  have hk := (sees_kind ho).1
  have hsk := skip_good hs hk
  have hwl : (s.wants gLp) = s.skip := by
   unfold PS.wants PS.takes
   rw [ho]
  have h6 := fun r => inner_eq hto hex hi hs (by rw [hwl]; omega) r
  simp only [ho, seesV] at h4
  rw [if_pos (by rfl)]
  obtain ⟨y, s2, hy⟩ : ∃ y s2, innerP ex s = (y, s2) := ⟨_, _, rfl⟩
  simp only [hy] at h6 ⊢
  obtain ⟨o, n, t, l⟩ := y
  simp only [Ex.cells_mk] at h6 ⊢
  simp [c_pp_part, h1, h4, h6, Hp_len, k1, k2, k3]
 | none =>
  simp only [ho, seesV] at h4
  rw [if_neg (by simp)]
  obtain ⟨o, s', hos⟩ : ∃ o s', s.takes [kTrue, kFalse, kExists, kSize, kRead] = (o, s') := ⟨_, _, rfl⟩
  rw [hos] at h5 ⊢
  cases o with
  | none =>
   obtain ⟨rfl, _⟩ := takes_none hos
   simp only [seesV] at h5
   simp [c_pp_part, h1, h3, h4, h5, Hp_len, k1, k2, k3, zx, hr0, Ex.cells_mk]
  | some t =>
   obtain ⟨rfl, hse, gto, hln, _, _⟩ := takes_some hs hos
   simp only [seesV] at h5
   dsimp only
   by_cases t1 : t = kTrue
   ·rw [if_pos t1]
    simp [c_pp_part, h1, h4, h5, Hp_len, k1, k2, k3, t1, hr0, Ex.cells_mk]
   rw [if_neg t1]
   by_cases t2 : t = kFalse
   ·rw [if_pos t2]
    simp [c_pp_part, h1, h4, h5, Hp_len, k1, k2, k3, t2, hr0, Ex.cells_mk]
   rw [if_neg t2]
   have h7 := pkind_eq t []
   have h6 := fun r => inner_eq hto hex hi gto.good (Nat.le_trans (wants_to gto.good gLp).len (by omega)) r
   obtain ⟨y, s2, hy⟩ : ∃ y s2, innerP ex s.skip = (y, s2) := ⟨_, _, rfl⟩
   simp only [hy] at h6 ⊢
   obtain ⟨o, n, t', l⟩ := y
   have hr1 : Ex.rows [Ex.mk o n t' l] = [(Ex.mk o n t' l).cells] := rfl
   simp only [Ex.cells_mk] at h6 hr1 ⊢
   simp [c_pp_part, h1, h4, h5, h6, h7, Hp_len, k1, k2, k3, t1, t2, hr1]
theorem chain_loop {f : Nat} (hf : f < yBase) {part : PF} {len : Nat} (hto : Goes' part) (hp : SpecP f part len) (signs : List (List UInt8)) (h100 : signs.length ≤ 100) {HB : Heap} {i : Nat} (hi : i < HB.length) (r : Heap) {v3 : V} (hv3 : v3 = .sl 1 (signs.map tx) ∨ v3 = .own 1 (signs.map tx)) (most : Nat) (hmost : most ≤ 100000) :
  ∀ (n j : Nat) (s : PS) (x : Ex) (φ : Fr), n + j = most → s.good → s.left.length ≤ len → Fr.get φ 0 = .ptr i 0 → Fr.get φ 1 = .fn (.func f) [.ptr i 0] [] → Fr.get φ 3 = v3 → Fr.get φ 8 = .ptr (HB.length + r.length) 0 → Fr.get φ 9 = .ptr (HB.length + (r.length + 1)) 0 → Fr.get φ 14 = .int .i64 most → Fr.get φ 15 = .int .i64 j →
   M (eval tbl noExt) [.code l_pp_chain_0, .blk 0, .code r_pp_chain_0, .fin [.cell 8 (some 4)] (HB.length + r.length)] φ (Hp HB i s ++ (r ++ [some [.int .i64 0, .int .i64 0, .str [], .own 4 []], some x.cells])) = some (.agg (chainP part signs n x s).1.cells, Hp HB i (chainP part signs n x s).2 ++ r) := by
 intro n
 induction n with
 | zero =>
  intro j s x φ hj hs hl h0 h1 h3 h8 h9 h14 h15
  have hlt : ¬ (j : Int) < most := by omega
  obtain ⟨o, n, t, l⟩ := x
  unfold chainP
  rw [l_pp_chain_0, M_loop]
  simp only [Ex.cells_mk]
  simp [b_pp_chain_0, r_pp_chain_0, h8, h9, h14, h15, hlt, Hp_len]
 | succ n ih =>
  intro j s x φ hj hs hl h0 h1 h3 h8 h9 h14 h15
  have hlt : (j : Int) < most := by omega
  have A6 := ar_suc j (by omega)
  have ht := fun r => takes_eq hi hs.ne signs h100 (.inl rfl) r
  obtain ⟨o, s', ho⟩ : ∃ o s', s.takes signs = (o, s') := ⟨_, _, rfl⟩
  rw [ho] at ht
  unfold chainP
  rw [ho]
  obtain ⟨xo, xn, xt, xl⟩ := x
  simp only [Ex.cells_mk]
  rw [l_pp_chain_0, M_loop, ← l_pp_chain_0]
  cases o with
  | none =>
   simp only [seesV] at ht
   obtain ⟨rfl, _⟩ := takes_none ho
   rcases hv3 with rfl | rfl <;> simp [b_pp_chain_0, r_pp_chain_0, h0, h1, h3, h8, h9, h14, h15, hlt, ht, Ex.cells_mk, Hp_len]
  | some t =>
   simp only [seesV] at ht
   obtain ⟨rfl, hse, gto, hln, _, _⟩ := takes_some hs ho
   have hk := pkind_eq t []
   have hP := fun r => hp HB i hi s.skip gto.good (by omega) r
   have g2 := hto s.skip gto.good
   obtain ⟨y, s2, hy⟩ : ∃ y s2, part s.skip = (y, s2) := ⟨_, _, rfl⟩
   simp only [hy] at hP g2 ⊢
   have hl2 : s2.left.length ≤ len := Nat.le_trans g2.len (by omega)
   have hnext := ih (j + 1) s2 (.mk (opOf t) 0 [] [.mk xo xn xt xl, y])
   obtain ⟨yo, yn, yt, yl⟩ := y
   have hr2 : Ex.rows [Ex.mk xo xn xt xl, Ex.mk yo yn yt yl] = [(Ex.mk xo xn xt xl).cells, (Ex.mk yo yn yt yl).cells] := rfl
   simp only [Ex.cells_mk, hr2] at hP hnext
   rcases hv3 with rfl | rfl
   all_goals
    simp [-arith, b_pp_chain_0, h0, h1, h3, h8, h9, h14, h15, hlt, ht, hk, hP, A6, hf, Hp_len]
    refine hnext _ (by omega) g2.good hl2 ?_ ?_ ?_ ?_ ?_ ?_ ?_ <;> simp [h0, h1, h3, h8, h9, h14]
theorem chain_eq {f : Nat} (hf : f < yBase) {part : PF} {len : Nat} (hto : Goes' part) (hp : SpecP f part len) (signs : List (List UInt8)) (h100 : signs.length ≤ 100) {HB : Heap} {i : Nat} (hi : i < HB.length) (most : Nat) (hmost : most ≤ 100000) {mi : Int} (hmi : mi = (most : Int)) {s : PS} (hs : s.good) (hl : s.left.length ≤ len) (r : Heap) :
  eval tbl noExt n_pp_chain [.ptr i 0, .fn (.func f) [.ptr i 0] [], .int .i64 mi, .own 1 (signs.map tx)] (Hp HB i s ++ r) = some (.agg (chain part signs most s).1.cells, Hp HB i (chain part signs most s).2 ++ r) := by
 subst hmi
 have hP := fun r => hp HB i hi s hs hl r
 have g2 := hto s hs
 unfold chain
 obtain ⟨y, s2, hy⟩ : ∃ y s2, part s = (y, s2) := ⟨_, _, rfl⟩
 simp only [hy] at hP g2 ⊢
 have hnext := chain_loop hf hto hp signs h100 hi r (.inr rfl) most hmost most 0 s2 y
 obtain ⟨yo, yn, yt, yl⟩ := y
 simp only [Ex.cells_mk] at hP hnext
 rw [eval_M rfl rfl t_pp_chain rfl]
 simp [c_pp_chain, hP, hf, Hp_len]
 refine hnext _ (by omega) g2.good (Nat.le_trans g2.len hl) ?_ ?_ ?_ ?_ ?_ ?_ ?_ <;> simp
theorem sum17_eq {ex : PF} {len : Nat} (hto : Goes' ex) (hex : SpecP n_pp_expr ex len) : SpecP n_pp_sum (sumP ex) (len + 1) := by
 intro HB i hi s hs hl r
 have h1 := fun r => chain_eq lt_pp_part (partP_to hto) (ppart_eq hto hex) [gPl, gMi] (by simp) hi 4096 (by omega) (mi := 4096) rfl hs hl r
 have e : chain (partP ex) [gPl, gMi] 4096 s = sumP ex s := rfl
 simp only [e, List.map_cons, List.map_nil, tx] at h1
 obtain ⟨y, s2, hy⟩ : ∃ y s2, sumP ex s = (y, s2) := ⟨_, _, rfl⟩
 simp only [hy] at h1 ⊢
 obtain ⟨yo, yn, yt, yl⟩ := y
 simp only [Ex.cells_mk] at h1 ⊢
 rw [eval_M rfl rfl t_pp_sum rfl]
 simp [c_pp_sum, h1, Hp_len]
theorem cmp17_eq {ex : PF} {len : Nat} (hto : Goes' ex) (hex : SpecP n_pp_expr ex len) : SpecP n_pp_compare (cmpP ex) (len + 1) := by
 intro HB i hi s hs hl r
 have h1 := fun r => chain_eq lt_pp_sum (sumP_to hto) (sum17_eq hto hex) [gEE, gLt] (by simp) hi 1 (by omega) (mi := 1) rfl hs hl r
 have e : chain (sumP ex) [gEE, gLt] 1 s = cmpP ex s := rfl
 simp only [e, List.map_cons, List.map_nil, tx] at h1
 obtain ⟨y, s2, hy⟩ : ∃ y s2, cmpP ex s = (y, s2) := ⟨_, _, rfl⟩
 simp only [hy] at h1 ⊢
 obtain ⟨yo, yn, yt, yl⟩ := y
 simp only [Ex.cells_mk] at h1 ⊢
 rw [eval_M rfl rfl t_pp_compare rfl]
 simp [c_pp_compare, h1, Hp_len]
theorem not17_eq {ex : PF} {len : Nat} (hto : Goes' ex) (hex : SpecP n_pp_expr ex len) : ∀ n, n ≤ len → SpecP n_pp_not (notP ex n) (n + 1) := by
 intro n
 induction n with
 | zero =>
  intro hn HB i hi s hs hl r
  have h1 := fun r => cmp17_eq hto hex HB i hi s hs (by omega) r
  have h2 := fun r => takes_eq hi hs.ne [kNot] (by simp) (.inr rfl) r
  have hno : s.sees [kNot] = none := by
   cases ho : s.sees [kNot] with
   | none => rfl
   | some t => have := hs.two (sees_kind ho).1; omega
  have ht : s.takes [kNot] = (none, s) := by unfold PS.takes; rw [hno]
  simp only [ht, seesV, List.map_cons, List.map_nil, tx] at h2
  show _ = some (V.agg (cmpP ex s).1.cells, Hp HB i (cmpP ex s).2 ++ r)
  obtain ⟨y, s2, hy⟩ : ∃ y s2, cmpP ex s = (y, s2) := ⟨_, _, rfl⟩
  simp only [hy] at h1 ⊢
  obtain ⟨yo, yn, yt, yl⟩ := y
  simp only [Ex.cells_mk] at h1 ⊢
  rw [eval_M rfl rfl t_pp_not rfl]
  simp [c_pp_not, h1, h2, Hp_len]
 | succ n ih =>
  intro hn HB i hi s hs hl r
  have h2 := fun r => takes_eq hi hs.ne [kNot] (by simp) (.inr rfl) r
  obtain ⟨o, s', ho⟩ : ∃ o s', s.takes [kNot] = (o, s') := ⟨_, _, rfl⟩
  unfold notP
  simp only [ho, seesV, List.map_cons, List.map_nil, tx] at h2 ⊢
  cases o with
  | none =>
   obtain ⟨rfl, _⟩ := takes_none ho
   have h1 := fun r => cmp17_eq hto hex HB i hi s' hs (by omega) r
   dsimp only
   obtain ⟨y, s2, hy⟩ : ∃ y s2, cmpP ex s' = (y, s2) := ⟨_, _, rfl⟩
   simp only [hy] at h1 ⊢
   obtain ⟨yo, yn, yt, yl⟩ := y
   simp only [Ex.cells_mk] at h1 ⊢
   rw [eval_M rfl rfl t_pp_not rfl]
   simp [c_pp_not, h1, h2, Hp_len]
  | some t =>
   obtain ⟨rfl, hse, gto, hln, _, _⟩ := takes_some hs ho
   have h1 := fun r => ih (by omega) HB i hi s.skip gto.good (by omega) r
   dsimp only
   obtain ⟨y, s2, hy⟩ : ∃ y s2, notP ex n s.skip = (y, s2) := ⟨_, _, rfl⟩
   simp only [hy] at h1 ⊢
   obtain ⟨yo, yn, yt, yl⟩ := y
   have hr1 : Ex.rows [Ex.mk yo yn yt yl] = [(Ex.mk yo yn yt yl).cells] := rfl
   simp only [Ex.cells_mk, hr1] at h1 ⊢
   rw [eval_M rfl rfl t_pp_not rfl]
   simp [c_pp_not, h1, h2, Hp_len]
theorem both17_eq {ex : PF} {len : Nat} (hto : Goes' ex) (hex : SpecP n_pp_expr ex len) : SpecP n_pp_both (bothP ex len) (len + 1) := by
 intro HB i hi s hs hl r
 have h1 := fun r => chain_eq lt_pp_not (notP_to hto len) (not17_eq hto hex len (Nat.le_refl _)) [kAnd] (by simp) hi 4096 (by omega) (mi := 4096) rfl hs hl r
 have e : chain (notP ex len) [kAnd] 4096 s = bothP ex len s := rfl
 simp only [e, List.map_cons, List.map_nil, tx] at h1
 obtain ⟨y, s2, hy⟩ : ∃ y s2, bothP ex len s = (y, s2) := ⟨_, _, rfl⟩
 simp only [hy] at h1 ⊢
 obtain ⟨yo, yn, yt, yl⟩ := y
 simp only [Ex.cells_mk] at h1 ⊢
 rw [eval_M rfl rfl t_pp_both rfl]
 simp [c_pp_both, h1, Hp_len]
theorem expr17_eq : ∀ n, SpecP n_pp_expr (exprP n) n
 | 0 => fun HB i hi s hs hl r => by have := hs.pos; omega
 | n + 1 => fun HB i hi s hs hl r => by
  have h1 := fun r => chain_eq lt_pp_both (bothP_to (exprP_to n) n) (both17_eq (exprP_to n) (expr17_eq n)) [kOr] (by simp) hi 4096 (by omega) (mi := 4096) rfl hs hl r
  have e : chain (bothP (exprP n) n) [kOr] 4096 s = exprP (n + 1) s := rfl
  simp only [e, List.map_cons, List.map_nil, tx] at h1
  obtain ⟨y, s2, hy⟩ : ∃ y s2, exprP (n + 1) s = (y, s2) := ⟨_, _, rfl⟩
  simp only [hy] at h1 ⊢
  obtain ⟨yo, yn, yt, yl⟩ := y
  simp only [Ex.cells_mk] at h1 ⊢
  rw [eval_M rfl rfl t_pp_expr rfl]
  simp [c_pp_expr, h1, Hp_len]
def Small (f : PF) : Prop := ∀ s : PS, s.good → (f s).1.size + 2 * (f s).2.left.length ≤ 2 * s.left.length + 1
theorem chainP_small {part : PF} (hto : Goes' part) (hp : Small part) (signs : List (List UInt8)) : ∀ (n : Nat) (x : Ex) (s : PS), s.good → (chainP part signs n x s).1.size + 2 * (chainP part signs n x s).2.left.length ≤ x.size + 2 * s.left.length
 | 0, x, s, h => Nat.le_refl _
 | n + 1, x, s, h => by
  unfold chainP
  obtain ⟨o, s', ho⟩ : ∃ o s', s.takes signs = (o, s') := ⟨_, _, rfl⟩
  rw [ho]
  cases o with
  | none => obtain ⟨rfl, _⟩ := takes_none ho; exact Nat.le_refl _
  | some t =>
   obtain ⟨rfl, hse, gto, hln, _, _⟩ := takes_some h ho
   have h1 := hp s.skip gto.good
   have h2 := chainP_small hto hp signs n (.mk (opOf t) 0 [] [x, (part s.skip).1]) (part s.skip).2 (hto _ gto.good).good
   simp only [Ex.size, Ex.sizes] at h2
   dsimp only
   omega
theorem chain_small {part : PF} (hto : Goes' part) (hp : Small part) (signs : List (List UInt8)) (n : Nat) : Small (chain part signs n) := fun s h => by
 have h1 := hp s h
 have h2 := chainP_small hto hp signs n (part s).1 (part s).2 (hto s h).good
 unfold chain
 omega
theorem inner_small {ex : PF} (hto : Goes' ex) (hs : Small ex) : Small (innerP ex) := fun s h => by
 have h1 := wants_to h gLp
 have h2 := hs _ h1.good
 have h3 := wants_to (hto _ h1.good).good gRp
 have h4 := h1.len
 have h5 := h3.len
 unfold innerP
 dsimp only
 omega
theorem part_small {ex : PF} (hto : Goes' ex) (hs : Small ex) : Small (partP ex) := fun s h => by
 have hpos := h.pos
 unfold partP
 split
 ·have := (skip_to h (by omega)).len; simp only [Ex.size, Ex.sizes]; omega
 split
 ·have := (skip_to h (by omega)).len; simp only [Ex.size, Ex.sizes]; omega
 split
 ·have := (skip_to h (by omega)).len; simp only [Ex.size, Ex.sizes]; omega
 split
 ·exact inner_small hto hs s h
 obtain ⟨o, s', ho⟩ : ∃ o s', s.takes [kTrue, kFalse, kExists, kSize, kRead] = (o, s') := ⟨_, _, rfl⟩
 rw [ho]
 cases o with
 | none => obtain ⟨rfl, _⟩ := takes_none ho; have := (fail_to h (show (12 : Int) ≠ 0 by omega) s'.head).len; simp only [zx, Ex.size, Ex.sizes]; omega
 | some t =>
  obtain ⟨rfl, hse, gto, hln, _, _⟩ := takes_some h ho
  have h1 := inner_small hto hs s.skip gto.good
  dsimp only
  split
  ·simp only [Ex.size, Ex.sizes]; omega
  split
  ·simp only [Ex.size, Ex.sizes]; omega
  ·simp only [Ex.size, Ex.sizes]; omega
theorem sum_small {ex : PF} (hto : Goes' ex) (hs : Small ex) : Small (sumP ex) := chain_small (partP_to hto) (part_small hto hs) _ _
theorem cmp_small {ex : PF} (hto : Goes' ex) (hs : Small ex) : Small (cmpP ex) := chain_small (sumP_to hto) (sum_small hto hs) _ _
theorem not_small {ex : PF} (hto : Goes' ex) (hs : Small ex) : ∀ n, Small (notP ex n)
 | 0 => cmp_small hto hs
 | n + 1 => fun s h => by
  unfold notP
  obtain ⟨o, s', ho⟩ : ∃ o s', s.takes [kNot] = (o, s') := ⟨_, _, rfl⟩
  rw [ho]
  cases o with
  | none => obtain ⟨rfl, _⟩ := takes_none ho; exact cmp_small hto hs _ h
  | some t =>
   obtain ⟨rfl, hse, gto, hln, _, _⟩ := takes_some h ho
   have h1 := not_small hto hs n s.skip gto.good
   simp only [Ex.size, Ex.sizes]
   omega
theorem both_small {ex : PF} (hto : Goes' ex) (hs : Small ex) (n : Nat) : Small (bothP ex n) := chain_small (notP_to hto n) (not_small hto hs n) _ _
theorem expr_small : ∀ n, Small (exprP n)
 | 0 => fun s h => by have := h.pos; simp only [exprP, zx, Ex.size, Ex.sizes]; omega
 | n + 1 => chain_small (bothP_to (exprP_to n) n) (both_small (exprP_to n) (expr_small n) n) _ _
theorem deeps_snoc : ∀ (l : List Ex) (e : Ex), Ex.deeps (l ++ [e]) = max (Ex.deeps l) e.deep
 | [], e => by simp [Ex.deeps]
 | x :: l, e => by
  have := deeps_snoc l e
  simp only [List.cons_append, Ex.deeps, this]
  omega
mutual
theorem deep_le : ∀ e : Ex, e.deep ≤ e.size
 | .mk op n s x => by
  have := deeps_le x
  simp only [Ex.deep, Ex.size]
  omega
theorem deeps_le : ∀ l : List Ex, Ex.deeps l ≤ Ex.sizes l
 | [] => Nat.le_refl _
 | e :: l => by
  have h1 := deep_le e
  have h2 := deeps_le l
  simp only [Ex.deeps, Ex.sizes]
  omega
end
theorem deep_loop (l : List Ex) (hl : l.length ≤ 100000) (hsz : Ex.deeps l ≤ 100000) (hd : ∀ e ∈ l, eval tbl noExt n_parse_deep [.agg e.cells] [] = some (.int .i64 e.deep, [])) :
  ∀ (n j : Nat) (φ : Fr) (K : Heap), j + n = l.length → Fr.get φ 3 = .int .i64 (Ex.deeps (l.take j) : Nat) → Fr.get φ 7 = .sl 4 (Ex.rows l) → Fr.get φ 8 = .int .i64 l.length → Fr.get φ 9 = .int .i64 j →
   M (eval tbl noExt) [.code l_parse_deep_0, .blk 0, .code r_parse_deep_0, .fin [.t 2] 0] φ K = some (.int .i64 ((Ex.deeps l + 1 : Nat) : Int), []) := by
 intro n
 induction n with
 | zero =>
  intro j φ K hj h3 h7 h8 h9
  have hlt : ¬ (j : Int) < l.length := by omega
  have A7 := ar_suc (Ex.deeps l) (by omega)
  rw [List.take_of_length_le (by omega)] at h3
  rw [l_parse_deep_0, M_loop]
  simp [-arith, b_parse_deep_0, r_parse_deep_0, h3, h7, h8, h9, hlt, A7]
 | succ n ih =>
  intro j φ K hj h3 h7 h8 h9
  have hlt : (j : Int) < l.length := by omega
  have hjl : j < l.length := by omega
  have A6 := ar_suc j (by omega)
  obtain ⟨e, he⟩ : ∃ e, e = l[j] := ⟨_, rfl⟩
  have hde := hd e (by rw [he]; exact List.getElem_mem _)
  have hrow : ∀ h : j < (Ex.rows l).length, (Ex.rows l)[j] = e.cells := fun h => by
   have : (Ex.rows l)[j]? = some e.cells := by rw [Ex.rows_eq, List.getElem?_map, List.getElem?_eq_getElem hjl, ← he]; rfl
   rw [List.getElem?_eq_getElem h] at this
   exact Option.some.inj this
  have hrl : (Ex.rows l).length = l.length := by rw [Ex.rows_eq, List.length_map]
  have hmax : max ((Ex.deeps (l.take j) : Nat) : Int) (e.deep : Nat) = ((Ex.deeps (l.take (j + 1)) : Nat) : Int) := by
   rw [List.take_add_one, List.getElem?_eq_getElem hjl, ← he, Option.toList, deeps_snoc]
   omega
  obtain ⟨eo, en, et, el⟩ := e
  simp only [Ex.cells_mk] at hde hrow
  rw [l_parse_deep_0, M_loop, ← l_parse_deep_0]
  simp [-arith, b_parse_deep_0, h3, h7, h8, h9, hlt, hjl, hrl, hrow, hde, hmax, A6, get0, set0]
  refine ih (j + 1) _ _ (by omega) ?_ ?_ ?_ ?_ <;> simp [h7, h8]
theorem pdeep_eq : ∀ (n : Nat) (e : Ex), e.size ≤ n → n ≤ 100000 → eval tbl noExt n_parse_deep [.agg e.cells] [] = some (.int .i64 e.deep, []) := by
 intro n
 induction n with
 | zero => intro e h; cases e; simp only [Ex.size] at h; omega
 | succ n ih =>
  intro e h hn
  obtain ⟨o, k, t, l⟩ := e
  simp only [Ex.size] at h
  have h1 := Ex.sizes_ge l
  have h2 := deeps_le l
  have hmem : ∀ x ∈ l, x.size ≤ Ex.sizes l := by
   intro x hx
   clear ih h h1 h2
   induction l with
   | nil => cases hx
   | cons y l ihl =>
    simp only [Ex.sizes]
    rcases List.mem_cons.1 hx with rfl | hx
    ·omega
    ·have := ihl hx; omega
  have hloop := deep_loop l (by omega) (by omega) (fun x hx => ih x (by have := hmem x hx; omega) (by omega)) l.length 0
  have hrl : (Ex.rows l).length = l.length := by rw [Ex.rows_eq, List.length_map]
  show _ = some (V.int .i64 ((Ex.deeps l + 1 : Nat) : Int), [])
  simp only [Ex.cells_mk]
  rw [eval_M rfl rfl t_parse_deep rfl]
  simp [c_parse_deep, hrl]
  refine hloop _ _ (by omega) ?_ ?_ ?_ ?_ <;> simp [Ex.deeps]
theorem pwhole_eq (t : List UInt8) (n : Nat) {HB : Heap} {i : Nat} (hi : i < HB.length) {s : PS} (hs : s.good) (hl : s.left.length ≤ n) (r : Heap) :
  eval tbl noExt n_pp_whole [.ptr i 0, .str t] (Hp HB i s ++ r) = some (.agg (wholeP t n s).1.cells, Hp HB i (wholeP t n s).2 ++ r) := by
 have h1 := fun r => phead_eq hi hs.ne r
 have h2 := fun r => expr17_eq n HB i hi s hs hl r
 have gto := exprP_to n s hs
 have hsm := expr_small n s hs
 have hlen := hs.len
 unfold wholeP
 dsimp only
 obtain ⟨w, hw⟩ : ∃ w, w = s.head := ⟨_, rfl⟩
 rw [← hw] at h1 ⊢
 have hwc : w.cells = [iw w.kind, .str w.s, iw w.n, iw w.a] := rfl
 obtain ⟨x, s2, hx⟩ : ∃ x s2, exprP n s = (x, s2) := ⟨_, _, rfl⟩
 simp only [hx] at h2 gto hsm ⊢
 have hd := pdeep_eq x.size x (Nat.le_refl _) (by omega)
 have h3 := fun r => sees_eq hi gto.good.ne [t] (by simp) (.inr rfl) r
 have h4 := fun r => phead_eq hi gto.good.ne r
 have h5 := fun r => pfail_eq hi s2 12 s2.head r
 have h6 := fun r => pfail_eq hi s2 14 w r
 have gI := fun r => gHp hi s2 r
 unfold PS.cells at gI
 obtain ⟨D, hD⟩ : ∃ D, D = x.deep := ⟨_, rfl⟩
 rw [← hD] at hd ⊢
 obtain ⟨xo, xn, xt, xl⟩ := x
 obtain ⟨u, hu⟩ : ∃ u, u = s2.head := ⟨_, rfl⟩
 have huc : u.cells = [iw u.kind, .str u.s, iw u.n, iw u.a] := rfl
 rw [← hu] at h4 h5 ⊢
 simp only [Ex.cells_mk, List.map_cons, List.map_nil, tx] at h2 h3 hd
 rw [hwc] at h1 h6
 rw [huc] at h4 h5
 rw [eval_M rfl rfl t_pp_whole rfl]
 by_cases hc : s2.clean
 ·rw [if_neg (by simpa using hc)]
  obtain ⟨c1, c2⟩ := hc
  rw [c1, c2] at gI
  by_cases hd8 : 8 < D
  ·have hd8' : (8 : Int) < D := by omega
   rw [if_pos hd8]
   cases ho : s2.sees [t] with
   | some v =>
    simp only [ho, seesV] at h3
    rw [if_neg (by simp)]
    simp [c_pp_whole, h1, h2, h3, h4, h5, h6, hd, hd8', gI, eqCells, Ex.cells_mk, hwc, Hp_len]
   | none =>
    simp only [ho, seesV] at h3
    by_cases ht : t = []
    ·subst ht
     by_cases hk : u.kind = 0
     ·rw [if_neg (by simp [hk])]
      simp [c_pp_whole, h1, h2, h3, h4, h5, h6, hd, hd8', hk, gI, eqCells, Ex.cells_mk, hwc, huc, Hp_len]
     ·rw [if_pos (by simp [hk])]
      simp [c_pp_whole, h1, h2, h3, h4, h5, h6, hd, hd8', hk, gI, eqCells, Ex.cells_mk, hwc, huc, Hp_len]
    ·rw [if_pos (by simp [ht])]
     simp [c_pp_whole, h1, h2, h3, h4, h5, h6, hd, hd8', ht, gI, eqCells, Ex.cells_mk, hwc, huc, Hp_len]
  ·have hd8' : ¬ (8 : Int) < D := by omega
   rw [if_neg hd8]
   cases ho : s2.sees [t] with
   | some v =>
    simp only [ho, seesV] at h3
    rw [if_neg (by simp)]
    simp [c_pp_whole, h1, h2, h3, h4, h5, h6, hd, hd8', gI, eqCells, Ex.cells_mk, hwc, Hp_len]
   | none =>
    simp only [ho, seesV] at h3
    by_cases ht : t = []
    ·subst ht
     by_cases hk : u.kind = 0
     ·rw [if_neg (by simp [hk])]
      simp [c_pp_whole, h1, h2, h3, h4, h5, h6, hd, hd8', hk, gI, eqCells, Ex.cells_mk, hwc, huc, Hp_len]
     ·rw [if_pos (by simp [hk])]
      simp [c_pp_whole, h1, h2, h3, h4, h5, h6, hd, hd8', hk, gI, eqCells, Ex.cells_mk, hwc, huc, Hp_len]
    ·rw [if_pos (by simp [ht])]
     simp [c_pp_whole, h1, h2, h3, h4, h5, h6, hd, hd8', ht, gI, eqCells, Ex.cells_mk, hwc, huc, Hp_len]
 ·rw [if_pos hc]
  have hc' : (decide (s2.fe = 0) && decide (s2.fa = 0)) = false := by
   rw [Bool.eq_false_iff]; intro h
   simp only [Bool.and_eq_true, decide_eq_true_eq] at h
   exact hc h
  simp [c_pp_whole, h1, h2, gI, eqCells, hc', Ex.cells_mk, hwc, Hp_len]
set_option maxHeartbeats 4000000
theorem nEx_eq (op : Int) (h1 : 1 ≤ op) (h2 : op ≤ 18) : eval tbl noExt n_tree_Exprs [.int .i64 op] [] = some (.tup [.int .i64 (nEx op), .bool true], []) := by
 have : op = 1 ∨ op = 2 ∨ op = 3 ∨ op = 4 ∨ op = 5 ∨ op = 6 ∨ op = 7 ∨ op = 8 ∨ op = 9 ∨ op = 10 ∨ op = 11 ∨ op = 12 ∨ op = 13 ∨ op = 14 ∨ op = 15 ∨ op = 16 ∨ op = 17 ∨ op = 18 := by omega
 rcases this with rfl | rfl | rfl | rfl | rfl | rfl | rfl | rfl | rfl | rfl | rfl | rfl | rfl | rfl | rfl | rfl | rfl | rfl <;> exact (eval_iff ..).2 ⟨40, by kernel_rfl⟩
theorem psimple_eq (w : Wx) (H : Heap) : eval tbl noExt n_parse_simple [.agg w.cells] H = some (.tup [.int .i64 ((simpleP w).getD 0), .bool (simpleP w).isSome], H) := by
 have hwc : w.cells = [iw w.kind, .str w.s, iw w.n, iw w.a] := rfl
 rw [eval_M rfl rfl t_parse_simple rfl]
 unfold simpleP
 rw [hwc]
 by_cases h4 : w.kind = 4
 ·rw [if_pos h4]
  by_cases h1 : w.s = kCreate
  ·simp [c_parse_simple, h4, h1, get0]
  by_cases h2 : w.s = kMkdir
  ·simp [c_parse_simple, h4, h2, get0]
  by_cases h3 : w.s = kWrite
  ·simp [c_parse_simple, h4, h3, get0]
  by_cases h5 : w.s = kAppend
  ·simp [c_parse_simple, h4, h5, get0]
  by_cases h6 : w.s = kTruncate
  ·simp [c_parse_simple, h4, h6, get0]
  by_cases h7 : w.s = kRename
  ·simp [c_parse_simple, h4, h7, get0]
  by_cases h8 : w.s = kUnlink
  ·simp [c_parse_simple, h4, h8, get0]
  by_cases h9 : w.s = kFsync
  ·simp [c_parse_simple, h4, h9, get0]
  by_cases h10 : w.s = kFdatasync
  ·simp [c_parse_simple, h4, h10, get0]
  by_cases h11 : w.s = kSyncdir
  ·simp [c_parse_simple, h4, h11, get0]
  by_cases h12 : w.s = kReplay
  ·simp [c_parse_simple, h4, h12, get0]
  by_cases h13 : w.s = kAssert
  ·simp [c_parse_simple, h4, h13, get0]
  by_cases h14 : w.s = kBarrier
  ·simp [c_parse_simple, h4, h14, get0]
  simp [c_parse_simple, h4, h1, h2, h3, h5, h6, h7, h8, h9, h10, h11, h12, h13, h14, get0]
 ·rw [if_neg h4]
  simp [c_parse_simple, h4, get0]
theorem nEx_le (op : Int) : nEx op ≤ 3 := by
 unfold nEx
 split
 ·omega
 split
 ·omega
 split <;> omega
theorem Ex.rows_snoc (l : List Ex) (e : Ex) : Ex.rows (l ++ [e]) = Ex.rows l ++ [e.cells] := by simp [Ex.rows_eq]
theorem exprs_loop (n : Nat) {HB : Heap} {i : Nat} (hi : i < HB.length) (r : Heap) (tot : Nat) (htot : 0 < tot) (h3 : tot ≤ 3) :
  ∀ (k j : Nat) (s : PS) (l : List Ex) (φ : Fr), k + j = tot → l.length = j → s.good → s.left.length ≤ n → Fr.get φ 0 = .ptr i 0 → Fr.get φ 5 = .int .i64 tot → Fr.get φ 7 = .own 4 (Ex.rows l) → Fr.get φ 15 = .int .i64 tot → Fr.get φ 16 = .int .i64 j →
   M (eval tbl noExt) [.code l_pp_exprs_0, .blk 0, .code r_pp_exprs_0, .fin [.t 4] (HB.length + r.length)] φ (Hp HB i s ++ r) = some (.own 4 (Ex.rows (exprsG n k l s).1), Hp HB i (exprsG n k l s).2 ++ r) := by
 intro k
 induction k with
 | zero =>
  intro j s l φ hj hlj hs hl g0 g5 g7 g15 g16
  have hlt : ¬ (j : Int) < tot := by omega
  have hne : ¬ (tot : Int) = 0 := by omega
  have hne' : ¬ tot = 0 := by omega
  unfold exprsG
  rw [l_pp_exprs_0, M_loop]
  simp [b_pp_exprs_0, r_pp_exprs_0, g0, g5, g7, g15, g16, hlt, hne, hne', Hp_len]
 | succ k ih =>
  intro j s l φ hj hlj hs hl g0 g5 g7 g15 g16
  have hlt : (j : Int) < tot := by omega
  have A6 := ar_suc j (by omega)
  have g1 := wholeP_to (if k = 0 then gSe else gCo) n s hs
  have g2 := wants_to g1.good (if k = 0 then gSe else gCo)
  unfold exprsG
  dsimp only
  obtain ⟨e, he⟩ : ∃ e, e = (if k = 0 then gSe else gCo) := ⟨_, rfl⟩
  rw [← he] at g1 g2 ⊢
  have h1 := fun r => pwhole_eq e n hi hs hl r
  have h2 := fun r => wants_eq hi g1.good.ne e r
  obtain ⟨x, s2, hx⟩ : ∃ x s2, wholeP e n s = (x, s2) := ⟨_, _, rfl⟩
  simp only [hx] at h1 h2 g1 g2 ⊢
  have hnext := ih (j + 1) (s2.wants e) (l ++ [x])
  rw [Ex.rows_snoc] at hnext
  have hrl := Ex.rows_len l
  have hcap : 2 * (l.length + 1) * 56 ≤ 281474976710656 := by omega
  obtain ⟨xo, xn, xt, xl⟩ := x
  simp only [Ex.cells_mk] at h1 hnext
  rw [l_pp_exprs_0, M_loop, ← l_pp_exprs_0]
  by_cases hk : k = 0
  ·have hl2 : ¬ (j : Int) + 1 < tot := by omega
   rw [if_pos hk] at he
   subst he
   simp [-arith, b_pp_exprs_0, g0, g5, g7, g15, g16, hlt, hl2, A6, h1, h2, hrl, hcap, Hp_len]
   refine hnext _ (by omega) (by simp; omega) g2.good (Nat.le_trans g2.len (Nat.le_trans g1.len hl)) ?_ ?_ ?_ ?_ ?_ <;> simp [g0, g5, g15]
  ·have hl2 : (j : Int) + 1 < tot := by omega
   rw [if_neg hk] at he
   subst he
   simp [-arith, b_pp_exprs_0, g0, g5, g7, g15, g16, hlt, hl2, A6, h1, h2, hrl, hcap, Hp_len]
   refine hnext _ (by omega) (by simp; omega) g2.good (Nat.le_trans g2.len (Nat.le_trans g1.len hl)) ?_ ?_ ?_ ?_ ?_ <;> simp [g0, g5, g15]
theorem exprs_eq (n : Nat) (op : Int) (ho1 : 1 ≤ op) (ho2 : op ≤ 18) {HB : Heap} {i : Nat} (hi : i < HB.length) {s : PS} (hs : s.good) (hl : s.left.length ≤ n) (r : Heap) :
  eval tbl noExt n_pp_exprs [.ptr i 0, .int .i64 op] (Hp HB i s ++ r) = some (.own 4 (Ex.rows (exprsP n op s).1), Hp HB i (exprsP n op s).2 ++ r) := by
 have h1 := nEx_eq op ho1 ho2
 have h2 := fun r => wants_eq hi hs.ne gSe r
 have h3 := nEx_le op
 unfold exprsP
 rw [eval_M rfl rfl t_pp_exprs rfl]
 by_cases hz : nEx op = 0
 ·rw [if_pos hz]
  rw [hz] at h1
  simp [c_pp_exprs, h1, Hp_len]
  rw [l_pp_exprs_0, M_loop]
  simp [b_pp_exprs_0, r_pp_exprs_0, h2, Hp_len, Ex.rows]
 ·rw [if_neg hz]
  have hnext := exprs_loop n hi r (nEx op) (by omega) h3 (nEx op) 0 s []
  simp [c_pp_exprs, h1, Hp_len]
  refine hnext _ (by omega) rfl hs hl ?_ ?_ ?_ ?_ ?_ <;> simp [Ex.rows]
end Go.AM.Spec
