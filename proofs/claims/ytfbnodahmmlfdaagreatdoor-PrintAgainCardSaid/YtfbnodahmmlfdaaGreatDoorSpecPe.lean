/-
 The parts of this proof that speak of the functions one by one.
-/
import Derived.Test.YtfbnodahmmlfdaaGreatDoorSpecPb
import Derived.Test.YtfbnodahmmlfdaaGreatDoorSpecTx
namespace Go.AM.Spec
set_option linter.unusedVariables false
set_option linter.unusedSimpArgs false
set_option maxRecDepth 10000
open PS
inductive Led (b : Bool) (s0 : PS) : PS → Prop
 | refl : Led b s0 s0
 | skip {r : PS} : Led b s0 r → Led b s0 r.skip
 | fail {r q : PS} {e : Int} : Led b s0 r → e ≠ 0 → Led b s0 q → Led b s0 (r.fail e q.head)
 | none {r : PS} {e : Int} : Led b s0 r → e ≠ 0 → Led b s0 (r.fail e zw)
 | step {r : PS} : b = true → Led b s0 r → r.st + 1 ≤ 256 → Led b s0 ⟨r.left, r.fe, r.fa, r.st + 1, r.o⟩
 | over {r q : PS} {e : Int} : b = true → Led b s0 r → e ≠ 0 → Led b s0 q → Led b s0 (PS.fail ⟨r.left, r.fe, r.fa, r.st + 1, r.o⟩ e q.head)
theorem Led.trans {b : Bool} {s r t : PS} (h : Led b s r) (k : Led b r t) : Led b s t := by
 induction k with
 | refl => exact h
 | skip _ ih => exact .skip ih
 | fail _ he _ ih1 ih2 => exact .fail ih1 he ih2
 | none _ he ih => exact .none ih he
 | step hb _ hs ih => exact .step hb ih hs
 | over hb _ he _ ih1 ih2 => exact .over hb ih1 he ih2
theorem Led.up {b : Bool} {s r : PS} (h : Led false s r) : Led b s r := by
 induction h with
 | refl => exact .refl
 | skip _ ih => exact .skip ih
 | fail _ he _ ih1 ih2 => exact .fail ih1 he ih2
 | none _ he ih => exact .none ih he
 | step hb _ hs ih => cases hb
 | over hb _ he _ ih1 ih2 => cases hb
theorem Led.st {s r : PS} (h : Led false s r) : r.st = s.st := by
 induction h with
 | refl => rfl
 | skip _ ih => rw [← ih]; unfold PS.skip; split <;> rfl
 | fail _ he _ ih1 ih2 => exact ih1
 | none _ he ih => exact ih
 | step hb _ hs ih => cases hb
 | over hb _ he _ ih1 ih2 => cases hb
theorem skip_clean {r : PS} (h : r.skip.clean) : r.clean := by
 unfold PS.skip at h
 split at h
 ·exact h
 ·exact h
theorem Led.most {b : Bool} {s r : PS} (h : Led b s r) (h0 : s.clean → s.st ≤ 256) : r.clean → r.st ≤ 256 := by
 induction h with
 | refl => exact h0
 | skip _ ih =>
  intro hc
  have := ih (skip_clean hc)
  unfold PS.skip
  split
  ·exact this
  ·exact this
 | fail _ he _ ih1 ih2 => exact fun hc => absurd hc (fail_dirty he _)
 | none _ he ih => exact fun hc => absurd hc (fail_dirty he _)
 | step hb _ hs ih => exact fun _ => hs
 | over hb _ he _ ih1 ih2 => exact fun hc => absurd hc (fail_dirty he _)
structure W1 (L : Int) (w : Wx) : Prop where
 num : w.kind = 2 → 0 ≤ w.n ∧ w.n ≤ 1000000000000
 text : w.kind = 3 → w.s.length ≤ 64
 name : w.kind = 1 → isName w.s = true
 sign : w.kind = 4 ∨ w.kind = 5 → w.s ≠ []
 short : w.kind = 5 → w.s.length ≤ 2
 place : 0 ≤ w.a ∧ w.a ≤ L
structure PS.fed (L : Int) (s : PS) : Prop where
 words : ∀ w ∈ s.left, W1 L w
 place : 0 ≤ s.fa ∧ s.fa ≤ L
 none : s.fe = 0 → s.fa = 0
theorem W1.zero {L : Int} (hL : 0 ≤ L) : W1 L zw := ⟨by simp [zw], by simp [zw], by simp [zw], by simp [zw], by simp [zw], by simp [zw]; exact hL⟩
theorem PS.fed.head {L : Int} (hL : 0 ≤ L) {s : PS} (h : s.fed L) : W1 L s.head := by
 unfold PS.head
 cases hl : s.left with
 | nil => exact W1.zero hL
 | cons w l => exact h.words w (by rw [hl]; simp)
theorem PS.fed.fail {L : Int} (hL : 0 ≤ L) {s : PS} (h : s.fed L) {w : Wx} (hw : W1 L w) {e : Int} (he : e ≠ 0) : (s.fail e w).fed L := by
 refine ⟨fun x hx => ?_, ?_, fun h0 => ?_⟩
 ·have : x = zw := by simpa [PS.fail] using hx
  rw [this]; exact W1.zero hL
 ·show 0 ≤ (if s.clean then w.a else s.fa) ∧ (if s.clean then w.a else s.fa) ≤ L
  split
  ·exact hw.place
  ·exact h.place
 ·have h0' : (if s.clean then e else s.fe) = 0 := h0
  show (if s.clean then w.a else s.fa) = 0
  by_cases hc : s.clean
  ·rw [if_pos hc] at h0'; exact absurd h0' he
  ·rw [if_neg hc] at h0' ⊢; exact h.none h0'
theorem Led.fed {b : Bool} {L : Int} (hL : 0 ≤ L) {s r : PS} (h : Led b s r) (h0 : s.fed L) : r.fed L := by
 induction h with
 | refl => exact h0
 | skip _ ih =>
  unfold PS.skip
  split
  ·exact ⟨fun w hw => ih.words w (List.mem_of_mem_tail hw), ih.place, ih.none⟩
  ·exact ih
 | fail _ he _ ih1 ih2 => exact ih1.fail hL (ih2.head hL) he
 | none _ he ih => exact ih.fail hL (W1.zero hL) he
 | step hb _ hs ih => exact ⟨ih.words, ih.place, ih.none⟩
 | @over r q e hb _ he _ ih1 ih2 =>
  have h1 : PS.fed L ⟨r.left, r.fe, r.fa, r.st + 1, r.o⟩ := ⟨ih1.words, ih1.place, ih1.none⟩
  exact h1.fail hL (ih2.head hL) he
theorem takes_led {b : Bool} (s : PS) (l : List (List UInt8)) : Led b s (s.takes l).2 := by
 unfold PS.takes
 split
 ·exact .skip .refl
 ·exact .refl
theorem takes_led' {b : Bool} {s r : PS} {l : List (List UInt8)} {o : Option (List UInt8)} (h : s.takes l = (o, r)) : Led b s r := by
 have := takes_led (b := b) s l
 rwa [h] at this
theorem wants_led {b : Bool} (s : PS) (t : List UInt8) : Led b s (s.wants t) := by
 unfold PS.wants
 obtain ⟨o, r, hr⟩ : ∃ o r, s.takes [t] = (o, r) := ⟨_, _, rfl⟩
 have h := takes_led' (b := b) hr
 rw [hr]
 cases o with
 | none => exact .fail h (by omega) h
 | some u => exact h
theorem of_led {b : Bool} (s : PS) (k : Int) : Led b s (s.of k).2 := by
 unfold PS.of
 split
 ·exact .fail .refl (by omega) .refl
 ·exact .skip .refl
def Leads {α : Type} (b : Bool) (f : PS → α × PS) : Prop := ∀ s : PS, Led b s (f s).2
section
variable {b : Bool}
theorem chainP_led {part : PF} (hp : Leads b part) (signs : List (List UInt8)) : ∀ (n : Nat) (x : Ex), Leads b (chainP part signs n x)
 | 0, x => fun s => .refl
 | n + 1, x => fun s => by
  unfold chainP
  obtain ⟨o, r, hr⟩ : ∃ o r, s.takes signs = (o, r) := ⟨_, _, rfl⟩
  have h1 := takes_led' (b := b) hr
  rw [hr]
  cases o with
  | none => exact h1
  | some t => exact h1.trans ((hp r).trans (chainP_led hp signs n _ _))
theorem chain_led {part : PF} (hp : Leads b part) (signs : List (List UInt8)) (n : Nat) : Leads b (chain part signs n) := fun s => (hp s).trans (chainP_led hp signs n _ _)
theorem innerP_led {ex : PF} (he : Leads b ex) : Leads b (innerP ex) := fun s => ((wants_led s gLp).trans (he _)).trans (wants_led _ gRp)
theorem partP_led {ex : PF} (he : Leads b ex) : Leads b (partP ex) := fun s => by
 unfold partP
 split
 ·exact .skip .refl
 ·split
  ·exact .skip .refl
  ·split
   ·exact .skip .refl
   ·split
    ·exact innerP_led he s
    ·obtain ⟨o, r, hr⟩ : ∃ o r, s.takes [kTrue, kFalse, kExists, kSize, kRead] = (o, r) := ⟨_, _, rfl⟩
     have h1 := takes_led' (b := b) hr
     rw [hr]
     cases o with
     | none => exact .fail h1 (by omega) .refl
     | some t =>
      dsimp only
      split
      ·exact h1
      ·split
       ·exact h1
       ·exact h1.trans (innerP_led he r)
theorem sumP_led {ex : PF} (he : Leads b ex) : Leads b (sumP ex) := chain_led (partP_led he) _ _
theorem cmpP_led {ex : PF} (he : Leads b ex) : Leads b (cmpP ex) := chain_led (sumP_led he) _ _
theorem notP_led {ex : PF} (he : Leads b ex) : ∀ n, Leads b (notP ex n)
 | 0 => cmpP_led he
 | n + 1 => fun s => by
  unfold notP
  obtain ⟨o, r, hr⟩ : ∃ o r, s.takes [kNot] = (o, r) := ⟨_, _, rfl⟩
  have h1 := takes_led' (b := b) hr
  rw [hr]
  cases o with
  | none => exact h1.trans (cmpP_led he _)
  | some t => exact h1.trans (notP_led he n r)
theorem bothP_led {ex : PF} (he : Leads b ex) (n : Nat) : Leads b (bothP ex n) := chain_led (notP_led he n) _ _
theorem orP_led {ex : PF} (he : Leads b ex) (n : Nat) : Leads b (orP ex n) := chain_led (bothP_led he n) _ _
theorem exprP_led : ∀ n, Leads b (exprP n)
 | 0 => fun s => .refl
 | n + 1 => orP_led (exprP_led n) n
theorem wholeP_led (t : List UInt8) (n : Nat) : Leads b (wholeP t n) := fun s => by
 have h1 := exprP_led (b := b) n s
 unfold wholeP
 dsimp only
 split
 ·exact h1
 ·split
  ·exact .fail h1 (by omega) h1
  ·split
   ·exact .fail h1 (by omega) .refl
   ·exact h1
theorem exprsG_led (n : Nat) : ∀ (k : Nat) (l : List Ex), Leads b (exprsG n k l)
 | 0, l => fun s => .refl
 | k + 1, l => fun s => by
  unfold exprsG
  dsimp only
  exact ((wholeP_led _ n s).trans (wants_led _ _)).trans (exprsG_led n k _ _)
theorem exprsP_led (n : Nat) (op : Int) : Leads b (exprsP n op) := fun s => by
 unfold exprsP
 split
 ·exact wants_led s _
 ·exact exprsG_led n _ _ s
theorem blockG_led {stm : PS → Sm × PS} (hs : Leads b stm) : ∀ (k : Nat) (l : List Sm), Leads b (blockG stm k l)
 | 0, l => fun s => .refl
 | k + 1, l => fun s => by
  unfold blockG
  split
  ·exact .refl
  ·obtain ⟨o, r, hr⟩ : ∃ o r, s.takes [gRb] = (o, r) := ⟨_, _, rfl⟩
   have h1 := takes_led' (b := b) hr
   rw [hr]
   cases o with
   | none => exact h1.trans ((hs _).trans (blockG_led hs k _ _))
   | some t => exact h1
theorem blockP_led {stm : SF} {deep : Int} (hs : Leads b (stm deep)) (n : Nat) : Leads b (blockP stm n deep) := fun s => (wants_led s gLb).trans (blockG_led hs n _ _)
theorem txnG_led {stm : PS → Sm × PS} (hs : Leads b stm) : ∀ (k : Nat) (l : List Sm), Leads b (txnG stm k l)
 | 0, l => fun s => by
  unfold txnG
  split
  ·exact .fail .refl (by omega) .refl
  ·exact .refl
 | k + 1, l => fun s => by
  unfold txnG
  split
  ·exact (hs _).trans (txnG_led hs k _ _)
  ·exact .refl
theorem txnP_led {stm : SF} {deep : Int} (hs : Leads b (stm (deep + 1))) (n : Nat) : Leads b (txnP stm n deep) := fun s => by
 unfold txnP
 dsimp only
 exact (((((wholeP_led gLb n s).trans (wants_led _ gLb)).trans (txnG_led hs 8 [] _)).trans (wants_led _ gRb)).trans (takes_led _ [kCommit])).trans (wants_led _ gSe)
theorem of_fail_led {s : PS} {k e : Int} (he : e ≠ 0) : Led b s ((s.of k).2.fail e (s.of k).1) := by
 have h1 := of_led (b := b) s k
 have h2 : (s.of k).1 = zw ∨ (s.of k).1 = s.head := by unfold PS.of; split <;> simp
 rcases h2 with h2 | h2 <;> rw [h2]
 ·exact .none h1 he
 ·exact .fail h1 he .refl
theorem loopP_led {stm : SF} {deep : Int} (hs : Leads b (stm (deep + 1))) (n : Nat) : Leads b (loopP stm n deep) := fun s => by
 unfold loopP
 dsimp only
 have h2 : Led b s (if 16 < (s.of 2).1.n then (s.of 2).2.fail 14 (s.of 2).1 else (s.of 2).2) := by
  split
  ·exact of_fail_led (by omega)
  ·exact of_led s 2
 exact h2.trans (blockP_led hs n _)
theorem choiceP_led {stm : SF} {deep : Int} (hs : Leads b (stm (deep + 1))) (n : Nat) : Leads b (choiceP stm n deep) := fun s => by
 unfold choiceP
 dsimp only
 have h2 := (wholeP_led (b := b) gLb n s).trans (blockP_led hs n _)
 obtain ⟨o, r, hr⟩ : ∃ o r, (blockP stm n (deep + 1) (wholeP gLb n s).2).2.takes [kElse] = (o, r) := ⟨_, _, rfl⟩
 have h3 := h2.trans (takes_led' (b := b) hr)
 rw [hr]
 cases o with
 | none => exact h3
 | some t => exact h3.trans (blockP_led hs n _)
theorem letP_led (n : Nat) : Leads b (letP n) := fun s => by
 unfold letP
 dsimp only
 exact ((of_led s 1).trans (wants_led _ [61])).trans (exprsP_led n 12 _)
theorem callP_led (n : Nat) : Leads b (callP n) := fun s => by
 unfold callP
 dsimp only
 exact (of_led s 1).trans (exprsP_led n 15 _)
end
theorem stmtB_led {stm : SF} (hs : ∀ d, Leads true (stm d)) (n : Nat) (deep : Int) : Leads true (stmtB stm n deep) := fun s => by
 unfold stmtB
 dsimp only
 split
 ·exact .fail .refl (by omega) .refl
 ·split
  ·exact .over rfl .refl (by omega) .refl
  ·rename_i hno
   have h1 : Led true s (PS.skip ⟨s.left, s.fe, s.fa, s.st + 1, s.o⟩) := .skip (.step rfl .refl (by omega))
   split
   ·exact h1.trans (exprsP_led n _ _)
   ·split
    ·exact h1.trans (letP_led n _)
    ·split
     ·exact h1.trans (callP_led n _)
     ·split
      ·exact h1.trans (choiceP_led (hs _) n _)
      ·split
       ·exact h1.trans (loopP_led (hs _) n _)
       ·exact h1.trans (txnP_led (hs _) n _)
theorem stmtP_led : ∀ (n : Nat) (deep : Int), Leads true (stmtP n deep)
 | 0, _ => fun s => .refl
 | n + 1, deep => stmtB_led (stmtP_led n) n deep
theorem namedP_led {b : Bool} (key : List UInt8) (n : Nat) : Leads b (namedP key n) := fun s => by
 unfold namedP
 obtain ⟨o, r, hr⟩ : ∃ o r, s.takes [key] = (o, r) := ⟨_, _, rfl⟩
 have h1 := takes_led' (b := b) hr
 rw [hr]
 cases o with
 | none => exact h1
 | some t =>
  dsimp only
  split
  ·exact (Led.fail h1 (by omega) .refl).trans (of_led _ 1)
  ·exact h1.trans (of_led _ 1)
theorem procsG_led {stm : SF} {len : Nat} (hto : ∀ d, Leads true (stm d)) : ∀ (k : Nat) (l : List (List UInt8 × List Sm)), Leads true (procsG stm len k l)
 | 0, l => fun s => .refl
 | k + 1, l => fun s => by
  have h1 := namedP_led (b := true) kProc l.length s
  unfold procsG
  obtain ⟨o, r, ho⟩ : ∃ o r, namedP kProc l.length s = (o, r) := ⟨_, _, rfl⟩
  rw [ho] at h1 ⊢
  cases o with
  | none => exact h1
  | some nm => exact (h1.trans (blockP_led (hto 1) len r)).trans (procsG_led hto k _ _)
theorem oraclesG_led {b : Bool} {len : Nat} : ∀ (k : Nat) (l : List (List UInt8 × Ex)), Leads b (oraclesG len k l)
 | 0, l => fun s => .refl
 | k + 1, l => fun s => by
  have h1 := namedP_led (b := b) kOracle l.length s
  unfold oraclesG
  obtain ⟨o, r, ho⟩ : ∃ o r, namedP kOracle l.length s = (o, r) := ⟨_, _, rfl⟩
  rw [ho] at h1 ⊢
  cases o with
  | none => exact h1
  | some nm => exact (((h1.trans (wants_led _ gCl)).trans (wholeP_led gSe len _)).trans (wants_led _ gSe)).trans (oraclesG_led k _ _)
theorem recP_led (n : Nat) : Leads true (recP n) := fun s => by
 unfold recP
 obtain ⟨o, r, ho⟩ : ∃ o r, s.takes [kRecover] = (o, r) := ⟨_, _, rfl⟩
 have h1 := takes_led' (b := true) ho
 rw [ho]
 cases o with
 | none => exact h1
 | some t => exact h1.trans (blockP_led (stmtP_led n 1) n r)
theorem programP_led (n : Nat) : Leads true (programP n) := fun s => by
 unfold programP
 dsimp only
 exact (((((procsG_led (len := n) (stmtP_led n) n [] s).trans (wants_led _ kMain)).trans (blockP_led (stmtP_led n 1) n _)).trans (recP_led n _)).trans (oraclesG_led (len := n) n [] _)).trans (of_led _ 0)
theorem wants_clean {s : PS} (h : s.good) {t : List UInt8} (hc : (s.wants t).clean) : s.clean ∧ (s.wants t).left.length + 1 = s.left.length := by
 have h0 := (wants_to h t).clean hc
 refine ⟨h0, ?_⟩
 unfold PS.wants at hc ⊢
 obtain ⟨o, r, hr⟩ : ∃ o r, s.takes [t] = (o, r) := ⟨_, _, rfl⟩
 rw [hr] at hc ⊢
 cases o with
 | none => exact absurd hc (fail_dirty (by omega) _)
 | some u => exact (takes_some h hr).2.2.2.1
theorem of_clean {s : PS} (h : s.good) {k : Int} (hc : (s.of k).2.clean) : s.clean ∧ s.head.kind = k ∧ s.of k = (s.head, s.skip) := by
 have h0 := (of_to h k).clean hc
 refine ⟨h0, ?_⟩
 unfold PS.of at hc ⊢
 by_cases hk : s.head.kind ≠ k
 ·rw [if_pos hk] at hc; exact absurd hc (fail_dirty (by omega) _)
 ·rw [if_neg hk]; exact ⟨Decidable.byContradiction hk, rfl⟩
theorem whole_clean {t : List UInt8} {n : Nat} {s : PS} (hc : (wholeP t n s).2.clean) : wholeP t n s = exprP n s ∧ (exprP n s).1.deep ≤ 8 ∧ (((exprP n s).2.sees [t]).isSome ∨ t = [] ∧ (exprP n s).2.head.kind = 0) := by
 unfold wholeP at hc ⊢
 dsimp only at hc ⊢
 by_cases h1 : (exprP n s).2.clean
 ·rw [if_neg (by simpa using h1)] at hc ⊢
  by_cases h2 : ((exprP n s).2.sees [t]).isNone ∧ ¬ (t = [] ∧ (exprP n s).2.head.kind = 0)
  ·rw [if_pos h2] at hc; exact absurd hc (fail_dirty (by omega) _)
  ·rw [if_neg h2] at hc ⊢
   by_cases h3 : 8 < (exprP n s).1.deep
   ·rw [if_pos h3] at hc; exact absurd hc (fail_dirty (by omega) _)
   ·rw [if_neg h3]
    refine ⟨rfl, by omega, ?_⟩
    by_cases h4 : ((exprP n s).2.sees [t]).isSome
    ·exact .inl h4
    ·right
     have h5 : ((exprP n s).2.sees [t]).isNone := by simpa using h4
     exact Decidable.byContradiction fun h6 => h2 ⟨h5, h6⟩
 ·rw [if_pos h1] at hc; exact absurd hc h1
set_option maxHeartbeats 2000000
theorem val_le : ∀ (l : List UInt8) (a v : Int), l.length ≤ 13 → 0 ≤ a → a < ((10 ^ (13 - l.length) : Nat) : Int) → val a l = some v → 0 ≤ v
 | [], a, v, hl, h, hb, e => by simp only [val] at e; cases e; exact h
 | c :: l, a, v, hl, h, hb, e => by
  simp only [List.length_cons] at hl hb
  have h10 : (10 : Nat) ^ (13 - l.length) = 10 * 10 ^ (13 - (l.length + 1)) := by
   have : 13 - l.length = (13 - (l.length + 1)) + 1 := by omega
   rw [this, Nat.pow_succ, Nat.mul_comm]
  have hp : (10 : Nat) ^ (13 - (l.length + 1)) ≤ 10 ^ 13 := Nat.pow_le_pow_right (by omega) (by omega)
  have e13 : (10 : Nat) ^ 13 = 10000000000000 := by decide
  rw [e13] at hp
  generalize (10 : Nat) ^ (13 - (l.length + 1)) = q at hb h10 hp
  simp only [val] at e
  split at e
  ·cases e
  ·rename_i hc
   have w1 : IntKind.i64.wrap (a * 10) = a * 10 := w64 (by omega) (by omega)
   have w2 : IntKind.i64.wrap (a * 10 + ((c.toNat : Int) - 48)) = a * 10 + ((c.toNat : Int) - 48) := w64 (by omega) (by omega)
   rw [w1, w2] at e
   exact val_le l _ v (by omega) (by omega) (by rw [h10]; omega) e
theorem read_le (s : List UInt8) : 0 ≤ (readR s).1 ∧ (readR s).1 ≤ 1000000000000 := by
 unfold readR
 split
 ·simp
 ·rename_i hs
  split
  ·simp
  ·rename_i v hv
   have hl : s.length ≤ 13 := Nat.le_of_not_lt fun h => hs (.inr (.inl h))
   have := val_le s 0 v hl (by omega) (by have := Nat.pow_pos (n := 13 - s.length) (show 0 < 10 by omega); omega) hv
   split
   ·simp
   ·exact ⟨this, by dsimp only; omega⟩
theorem oneS_w1 {l : List UInt8} {w : Wd} {n : Nat} (h : oneS l = .inl (w, n)) {L a : Int} (ha : 0 ≤ a ∧ a ≤ L) : W1 L ⟨w.kind, w.s, w.n, a⟩ := by
 unfold oneS at h
 split at h
 ·cases h
 ·rename_i c r
  split at h
  ·rename_i hc
   simp only at h
   split at h
   ·rename_i hk
    cases h
    refine ⟨by simp, by simp, by simp, fun _ => ?_, by simp, ha⟩
    have hi : isInner c = true := by unfold isInner; simp [hc]
    show (c :: r).takeWhile isInner ≠ []
    rw [List.takeWhile_cons_of_pos hi]; simp
   ·split at h
    ·rename_i hn
     cases h
     exact ⟨by simp, by simp, fun _ => hn, by simp, by simp, ha⟩
    ·cases h
  ·split at h
   ·simp only at h
    split at h
    ·cases h
     exact ⟨fun _ => read_le _, by simp, by simp, by simp, by simp, ha⟩
    ·cases h
   ·split at h
    ·split at h
     ·cases h
     ·split at h
      ·cases h
      ·split at h
       ·cases h
       ·rename_i hu
        cases h
        exact ⟨by simp, fun _ => by dsimp only; omega, by simp, by simp, by simp, ha⟩
    ·split at h
     ·cases h
      exact ⟨by simp, by simp, by simp, fun _ => by simp, fun _ => by simp, ha⟩
     ·split at h
      ·cases h
       exact ⟨by simp, by simp, by simp, fun _ => by simp, fun _ => by simp, ha⟩
      ·cases h
theorem wordsG_fed (total : Nat) : ∀ (f : Nat) (l : List UInt8) (acc : List (List V)), l.length < f → l.length ≤ total → (wordsG total f l acc).2.1 = 0 →
  ∃ m : List Wx, (wordsG total f l acc).1 = acc ++ wrows m ∧ m ≠ [] ∧ (∀ h, (m.getLast h).kind = 0) ∧ m.length ≤ f ∧ ∀ w ∈ m, W1 total w
 | 0, l, acc, h, _, _ => by omega
 | f + 1, l, acc, h, ht, h0 => by
  unfold wordsG at h0 ⊢
  by_cases hl : l = []
  ·rw [if_pos hl]
   refine ⟨[⟨0, [], 0, total⟩], rfl, by simp, fun _ => rfl, by simp, fun w hw => ?_⟩
   have : w = ⟨0, [], 0, total⟩ := by simpa using hw
   rw [this]
   exact ⟨by simp, by simp, by simp, by simp, by simp, by simp⟩
  ·rw [if_neg hl] at h0 ⊢
   obtain ⟨c, r, rfl⟩ : ∃ c r, l = c :: r := by
    cases l with
    | nil => exact absurd rfl hl
    | cons c r => exact ⟨c, r, rfl⟩
   cases ho : oneS (c :: r) with
   | inr e =>
    rw [ho] at h0
    exact absurd h0 (oneS_err c r e ho)
   | inl p =>
    obtain ⟨w, n⟩ := p
    obtain ⟨n1, n2⟩ := oneS_len c r w n ho
    rw [ho] at h0
    dsimp only at h0 ⊢
    have h1 := skipG_le false ((c :: r).drop n)
    rw [List.length_drop, List.length_cons] at h1
    rw [List.length_cons] at h ht
    obtain ⟨m, hm, hne, hlast, hml, hw⟩ := wordsG_fed total f (skipG false ((c :: r).drop n)) _ (by omega) (by omega) h0
    refine ⟨⟨w.kind, w.s, w.n, ((total - (c :: r).length : Nat) : Int)⟩ :: m, ?_, by simp, fun hh => ?_, by simp; omega, fun x hx => ?_⟩
    ·rw [hm, List.append_assoc]
     rfl
    ·rw [List.getLast_cons hne]
     exact hlast hne
    ·rcases List.mem_cons.1 hx with rfl | hx
     ·exact oneS_w1 ho (by omega)
     ·exact hw x hx
theorem wordsG_place (total : Nat) : ∀ (f : Nat) (l : List UInt8) (acc : List (List V)), ((wordsG total f l acc).2.1 = 0 → (wordsG total f l acc).2.2 = 0) ∧ 0 ≤ (wordsG total f l acc).2.2 ∧ (wordsG total f l acc).2.2 ≤ total
 | 0, l, acc => by unfold wordsG; simp
 | f + 1, l, acc => by
  unfold wordsG
  by_cases hl : l = []
  ·rw [if_pos hl]; simp
  ·rw [if_neg hl]
   obtain ⟨c, r, rfl⟩ : ∃ c r, l = c :: r := by
    cases l with
    | nil => exact absurd rfl hl
    | cons c r => exact ⟨c, r, rfl⟩
   cases ho : oneS (c :: r) with
   | inr e =>
    dsimp only
    exact ⟨fun h => absurd h (oneS_err c r e ho), by omega, by omega⟩
   | inl p =>
    obtain ⟨w, n⟩ := p
    exact wordsG_place total f _ _
theorem words_place (s : List UInt8) : ((wordsS s).2.1 = 0 → (wordsS s).2.2 = 0) ∧ 0 ≤ (wordsS s).2.2 ∧ (wordsS s).2.2 ≤ s.length := by
 unfold wordsS
 split
 ·simp
 ·exact wordsG_place _ _ _ _
def pst (l : List Wx) : PS := ⟨l, 0, 0, 0, false⟩
theorem words_fed (s : List UInt8) (h0 : (wordsS s).2.1 = 0) : ∃ l : List Wx, wordsS s = (wrows l, 0, 0) ∧ (pst l).good ∧ (pst l).fed s.length := by
 have hp := (words_place s).1 h0
 have hh : ∃ l : List Wx, (wordsS s).1 = wrows l ∧ (pst l).good ∧ (pst l).fed s.length := by
  unfold wordsS at h0 ⊢
  by_cases h : 4096 < s.length
  ·rw [if_pos h] at h0
   exact absurd (show (14 : Int) = 0 from h0) (by omega)
  ·rw [if_neg h] at h0 ⊢
   have h1 := skipG_le false s
   obtain ⟨m, hm, hne, hlast, hml, hw⟩ := wordsG_fed s.length (s.length + 1) (skipG false s) [] (by omega) h1 h0
   exact ⟨m, by rw [hm]; rfl, ⟨hne, hlast, fun hc => absurd ⟨rfl, rfl⟩ hc, by show m.length ≤ 4097; omega⟩, ⟨hw, by simp [pst], fun _ => rfl⟩⟩
 obtain ⟨l, h1, h2, h3⟩ := hh
 exact ⟨l, by rw [← h1]; exact Prod.ext rfl (Prod.ext h0 hp), h2, h3⟩
def zp : Pg := ⟨[], [], [], []⟩
def ansP (x : Pg × PS) : Pg := if x.2.clean then x.1 else zp
theorem Program_bad {s : List UInt8} (hs : s.length ≤ 1000000) (h0 : (wordsS s).2.1 ≠ 0) : eval tbl noExt n_parse_Program [.str s] [] = some (.tup [.agg zp.cells, .agg [iw (wordsS s).2.1, iw (wordsS s).2.2]], []) := by
 have hW := fun H => Words_eq s hs H
 generalize wordsS s = x at hW h0 ⊢
 obtain ⟨rows, e, a⟩ := x
 simp only [wordsV] at hW h0 ⊢
 have hz : zp.cells = [.sl 2 [], .sl 7 [], .sl 7 [], .sl 5 []] := rfl
 rw [hz]
 rw [eval_M rfl rfl t_parse_Program rfl]
 simp [c_parse_Program, hW, h0, eqCells, V.apart, storeOf]
theorem Program_eq {s : List UInt8} (hs : s.length ≤ 1000000) {l : List Wx} (hw : wordsS s = (wrows l, 0, 0)) (hg : (pst l).good) :
  eval tbl noExt n_parse_Program [.str s] [] = some (.tup [.agg (ansP (programP 4097 (pst l))).cells, .agg [iw (programP 4097 (pst l)).2.fe, iw (programP 4097 (pst l)).2.fa]], []) := by
 have hW := fun H => Words_eq s hs H
 simp only [hw, wordsV] at hW
 have hP := program_eq 4097 (by omega) (HB := [some [V.own 2 [], .own 7 [], .own 7 [], .own 5 []], some [iw 0, iw 0], some [iw 0, iw 0], none]) (i := 3) (by simp) hg hg.len (by simp [pst]) (by have := hg.len; simp only [pst] at this ⊢; omega) []
 obtain ⟨x, r, hx⟩ : ∃ x r, programP 4097 (pst l) = (x, r) := ⟨_, _, rfl⟩
 rw [hx] at hP ⊢
 have hz : zp.cells = [.sl 2 [], .sl 7 [], .sl 7 [], .sl 5 []] := rfl
 have hxc : x.cells = [.sl 2 x.pcells, .sl 7 (Sm.rows x.main), .sl 7 (Sm.rows x.recover), .sl 5 x.ocells] := rfl
 simp [Hp, PS.cells, PS.lv, pst] at hP
 rw [hxc] at hP
 have hlv : (if r.o = true then V.own 4 (wrows r.left) else V.sl 4 (wrows r.left)) = r.lv := rfl
 rw [hlv] at hP
 unfold ansP
 rw [eval_M rfl rfl t_parse_Program rfl]
 by_cases hc : r.clean
 ·rw [if_pos hc]
  obtain ⟨c1, c2⟩ := hc
  rw [c1, c2] at hP
  simp [c_parse_Program, hW, eqCells, V.apart, storeOf, hP, hxc, c1, c2]
 ·rw [if_neg hc]
  have hc' : (decide (r.fe = 0) && decide (r.fa = 0)) = false := by
   rw [Bool.eq_false_iff]; intro h
   simp only [Bool.and_eq_true, decide_eq_true_eq] at h
   exact hc h
  simp [c_parse_Program, hW, eqCells, V.apart, storeOf, hP, hxc, hz, hc']
def Ex.fine (e : Ex) : Prop := ∀ d, e.deep ≤ d → e.ok d = true
theorem deeps_mem {l : List Ex} {e : Ex} (h : e ∈ l) : e.deep ≤ Ex.deeps l := by
 induction l with
 | nil => cases h
 | cons y l ih =>
  simp only [Ex.deeps]
  rcases List.mem_cons.1 h with rfl | h
  ·omega
  ·have := ih h; omega
theorem fine_mk {op n : Int} {s : List UInt8} {x : List Ex} (hp : parts op = some x.length) (hl : leafOk op n s = true) (hx : ∀ e ∈ x, e.fine) : (Ex.mk op n s x).fine := by
 intro d hd
 simp only [Ex.deep] at hd
 have h1 : Ex.oks x (d - 1) = true := by
  rw [Ex.oks_all, List.all_eq_true]
  intro e he
  exact hx e he _ (by have := deeps_mem he; omega)
 have h0 : d ≠ 0 := by omega
 simp only [Ex.ok, hp, hl, h1, decide_true, Bool.and_true, Bool.true_and]
 exact decide_eq_true h0
section
variable {L : Int} (hL : 0 ≤ L)
include hL
def FineF (L : Int) (m : Nat) (part : PF) : Prop := ∀ s : PS, s.good → s.fed L → s.left.length ≤ m → (part s).2.clean → (part s).1.fine
theorem chainP_fine {m : Nat} {part : PF} (hto : Goes' part) (hled : Leads false part) (hp : FineF L m part) {signs : List (List UInt8)} (h2 : ∀ t ∈ signs, parts (opOf t) = some 2 ∧ leafOk (opOf t) 0 [] = true) :
  ∀ (n : Nat) (x : Ex) (s : PS), x.fine → s.good → s.fed L → s.left.length ≤ m → (chainP part signs n x s).2.clean → (chainP part signs n x s).1.fine
 | 0, x, s, hx, hs, hf, hl, hc => hx
 | n + 1, x, s, hx, hs, hf, hl, hc => by
  unfold chainP at hc ⊢
  obtain ⟨o, r, hr⟩ : ∃ o r, s.takes signs = (o, r) := ⟨_, _, rfl⟩
  have hfr := (takes_led' (b := false) hr).fed hL hf
  rw [hr] at hc ⊢
  cases o with
  | none => exact hx
  | some t =>
   obtain ⟨_, hse, gto, hln, _, _⟩ := takes_some hs hr
   have ht := h2 t (sees_kind hse).2.2
   dsimp only at hc ⊢
   have g := gto.good
   have gp := hto r g
   have h1 : (part r).2.clean := (chainP_to hto signs n _ _ gp.good).clean hc
   have hy := hp r g hfr (by omega) h1
   refine chainP_fine hto hled hp h2 n _ _ (fine_mk ht.1 ht.2 ?_) gp.good ((hled r).fed hL hfr) (by have := gp.len; omega) hc
   intro e he
   rcases List.mem_cons.1 he with rfl | he
   ·exact hx
   ·rcases List.mem_cons.1 he with rfl | he
    ·exact hy
    ·cases he
theorem chain_fine {m : Nat} {part : PF} (hto : Goes' part) (hled : Leads false part) (hp : FineF L m part) {signs : List (List UInt8)} (h2 : ∀ t ∈ signs, parts (opOf t) = some 2 ∧ leafOk (opOf t) 0 [] = true) (n : Nat) : FineF L m (chain part signs n) := fun s hs hf hl hc => by
 have gp := hto s hs
 have h1 : (part s).2.clean := (chainP_to hto signs n _ _ gp.good).clean hc
 exact chainP_fine hL hto hled hp h2 n _ _ (hp s hs hf hl h1) gp.good ((hled s).fed hL hf) (by have := gp.len; omega) hc
theorem inner_fine {m : Nat} {ex : PF} (hto : Goes' ex) (he : FineF L m ex) {s : PS} (hs : s.good) (hf : s.fed L) (hl : (s.wants gLp).left.length ≤ m) (hc : (innerP ex s).2.clean) : (innerP ex s).1.fine := by
 have g1 := wants_to hs gLp
 have g2 := hto _ g1.good
 have h2 := (wants_to g2.good gRp).clean hc
 exact he _ g1.good ((wants_led (b := false) s gLp).fed hL hf) hl h2
theorem part_fine {m : Nat} {ex : PF} (hto : Goes' ex) (he : FineF L m ex) : FineF L (m + 1) (partP ex) := fun s hs hf hl hc => by
 have hw := hf.head hL
 unfold partP at hc ⊢
 by_cases k2 : s.head.kind = 2
 ·rw [if_pos k2]
  have := hw.num k2
  exact fine_mk rfl (by simp [leafOk, this.1, this.2]) (by simp)
 rw [if_neg k2] at hc ⊢
 by_cases k3 : s.head.kind = 3
 ·rw [if_pos k3]
  have := hw.text k3
  exact fine_mk rfl (by simp [leafOk, this]) (by simp)
 rw [if_neg k3] at hc ⊢
 by_cases k1 : s.head.kind = 1
 ·rw [if_pos k1]
  have := hw.name k1
  exact fine_mk rfl (by simp [leafOk, this]) (by simp)
 rw [if_neg k1] at hc ⊢
 by_cases hp : (s.sees [gLp]).isSome
 ·rw [if_pos hp] at hc ⊢
  obtain ⟨t, ht⟩ := Option.isSome_iff_exists.1 hp
  have hwl : (s.wants gLp).left.length ≤ m := by
   have hk := skip_good hs (sees_kind ht).1
   have e : s.wants gLp = s.skip := by unfold PS.wants PS.takes; rw [ht]
   rw [e]; omega
  exact inner_fine hL hto he hs hf hwl hc
 rw [if_neg hp] at hc ⊢
 obtain ⟨o, r, hr⟩ : ∃ o r, s.takes [kTrue, kFalse, kExists, kSize, kRead] = (o, r) := ⟨_, _, rfl⟩
 have hfr := (takes_led' (b := false) hr).fed hL hf
 rw [hr] at hc ⊢
 cases o with
 | none => exact absurd hc (fail_dirty (by omega) _)
 | some t =>
  obtain ⟨_, hse, gto, hln, _, _⟩ := takes_some hs hr
  have hm := (sees_kind hse).2.2
  dsimp only at hc ⊢
  by_cases t1 : t = kTrue
  ·rw [if_pos t1]; exact fine_mk rfl (by decide) (by simp)
  rw [if_neg t1] at hc ⊢
  by_cases t2 : t = kFalse
  ·rw [if_pos t2]; exact fine_mk rfl (by decide) (by simp)
  rw [if_neg t2] at hc ⊢
  have hop : parts (opOf t) = some 1 ∧ leafOk (opOf t) 0 [] = true := by
   simp only [List.mem_cons, List.not_mem_nil, or_false] at hm
   rcases hm with rfl | rfl | rfl | rfl | rfl
   ·exact absurd rfl t1
   ·exact absurd rfl t2
   ·decide
   ·decide
   ·decide
  have hwl : (r.wants gLp).left.length ≤ m := by
   have := (wants_to gto.good gLp).len
   omega
  have hi := inner_fine hL hto he gto.good hfr hwl hc
  exact fine_mk hop.1 hop.2 (by simpa using hi)
theorem sum_fine {m : Nat} {ex : PF} (hto : Goes' ex) (hled : Leads false ex) (he : FineF L m ex) : FineF L (m + 1) (sumP ex) :=
 chain_fine hL (partP_to hto) (partP_led hled) (part_fine hL hto he) (by intro t ht; simp only [List.mem_cons, List.not_mem_nil, or_false] at ht; rcases ht with rfl | rfl <;> decide) _
theorem cmp_fine {m : Nat} {ex : PF} (hto : Goes' ex) (hled : Leads false ex) (he : FineF L m ex) : FineF L (m + 1) (cmpP ex) :=
 chain_fine hL (sumP_to hto) (sumP_led hled) (sum_fine hL hto hled he) (by intro t ht; simp only [List.mem_cons, List.not_mem_nil, or_false] at ht; rcases ht with rfl | rfl <;> decide) _
theorem not_fine {m : Nat} {ex : PF} (hto : Goes' ex) (hled : Leads false ex) (he : FineF L m ex) : ∀ n, FineF L (m + 1) (notP ex n)
 | 0 => cmp_fine hL hto hled he
 | n + 1 => fun s hs hf hl hc => by
  unfold notP at hc ⊢
  obtain ⟨o, r, hr⟩ : ∃ o r, s.takes [kNot] = (o, r) := ⟨_, _, rfl⟩
  have hfr := (takes_led' (b := false) hr).fed hL hf
  rw [hr] at hc ⊢
  cases o with
  | none => obtain ⟨rfl, _⟩ := takes_none hr; exact cmp_fine hL hto hled he _ hs hf hl hc
  | some t =>
   obtain ⟨_, hse, gto, hln, _, _⟩ := takes_some hs hr
   have hi := not_fine hto hled he n r gto.good hfr (by omega) hc
   exact fine_mk rfl (by decide) (by simpa using hi)
theorem both_fine {m : Nat} {ex : PF} (hto : Goes' ex) (hled : Leads false ex) (he : FineF L m ex) (n : Nat) : FineF L (m + 1) (bothP ex n) :=
 chain_fine hL (notP_to hto n) (notP_led hled n) (not_fine hL hto hled he n) (by intro t ht; simp only [List.mem_cons, List.not_mem_nil, or_false] at ht; subst ht; decide) _
theorem expr_fine : ∀ n, FineF L n (exprP n)
 | 0 => fun s hs hf hl hc => by have := hs.pos; omega
 | n + 1 => chain_fine hL (bothP_to (exprP_to n) n) (bothP_led (exprP_led n) n) (both_fine hL (exprP_to n) (exprP_led n) (expr_fine n) n) (by intro t ht; simp only [List.mem_cons, List.not_mem_nil, or_false] at ht; subst ht; decide) _
omit hL
include hL
theorem whole_ok {t : List UInt8} {n : Nat} {s : PS} (hs : s.good) (hf : s.fed L) (hl : s.left.length ≤ n) (hc : (wholeP t n s).2.clean) :
  (wholeP t n s).1.ok 8 = true ∧ (wholeP t n s).1.size + 2 * (wholeP t n s).2.left.length ≤ 2 * s.left.length + 1 := by
 obtain ⟨h1, h2, _⟩ := whole_clean hc
 rw [h1] at hc ⊢
 exact ⟨expr_fine hL n s hs hf hl hc 8 h2, expr_small n s hs⟩
theorem exprsG_ok {n : Nat} : ∀ (k : Nat) (l : List Ex) (s : PS), s.good → s.fed L → s.left.length ≤ n → (exprsG n k l s).2.clean →
  ∃ m, (exprsG n k l s).1 = l ++ m ∧ m.length = k ∧ Ex.oks m 8 = true ∧ Ex.sizes m + 2 * (exprsG n k l s).2.left.length ≤ 2 * s.left.length
 | 0, l, s, hs, hf, hl, hc => ⟨[], by simp [exprsG], rfl, rfl, by simp [exprsG, Ex.sizes]⟩
 | k + 1, l, s, hs, hf, hl, hc => by
  unfold exprsG at hc ⊢
  dsimp only at hc ⊢
  generalize (if k = 0 then gSe else gCo) = e at hc ⊢
  have g1 := wholeP_to e n s hs
  have g2 := wants_to g1.good e
  have hc2 := (exprsG_to n k (l ++ [(wholeP e n s).1]) _ g2.good).clean hc
  obtain ⟨hc1, hw⟩ := wants_clean g1.good hc2
  obtain ⟨h1, h2⟩ := whole_ok hL hs hf hl hc1
  have f2 := ((wholeP_led (b := false) e n s).trans (wants_led _ e)).fed hL hf
  have l1 := g1.len
  obtain ⟨m, e1, e2, e3, e4⟩ := exprsG_ok k (l ++ [(wholeP e n s).1]) _ g2.good f2 (by omega) hc
  refine ⟨(wholeP e n s).1 :: m, by rw [e1]; simp, by simp [e2], by simp [Ex.oks, h1, e3], ?_⟩
  simp only [Ex.sizes]
  omega
theorem exprsP_ok {n : Nat} {op : Int} {s : PS} (hs : s.good) (hf : s.fed L) (hl : s.left.length ≤ n) (hc : (exprsP n op s).2.clean) :
  (exprsP n op s).1.length = nEx op ∧ Ex.oks (exprsP n op s).1 8 = true ∧ Ex.sizes (exprsP n op s).1 + 2 * (exprsP n op s).2.left.length ≤ 2 * s.left.length := by
 unfold exprsP at hc ⊢
 by_cases h0 : nEx op = 0
 ·rw [if_pos h0] at hc ⊢
  obtain ⟨_, hw⟩ := wants_clean hs hc
  exact ⟨by simp [h0], rfl, by simp only [Ex.sizes]; omega⟩
 ·rw [if_neg h0] at hc ⊢
  obtain ⟨m, e1, e2, e3, e4⟩ := exprsG_ok hL _ [] s hs hf hl hc
  rw [List.nil_append] at e1
  rw [e1]
  exact ⟨e2, e3, e4⟩
end
theorem exprs_nEx (op : Int) (h1 : 1 ≤ op) (h2 : op ≤ 18) : exprs op = some (nEx op) := by
 have : op = 1 ∨ op = 2 ∨ op = 3 ∨ op = 4 ∨ op = 5 ∨ op = 6 ∨ op = 7 ∨ op = 8 ∨ op = 9 ∨ op = 10 ∨ op = 11 ∨ op = 12 ∨ op = 13 ∨ op = 14 ∨ op = 15 ∨ op = 16 ∨ op = 17 ∨ op = 18 := by omega
 rcases this with rfl | rfl | rfl | rfl | rfl | rfl | rfl | rfl | rfl | rfl | rfl | rfl | rfl | rfl | rfl | rfl | rfl | rfl <;> rfl
theorem shape_mk {op n : Int} {s : List UInt8} {e : List Ex} {b c : List Sm} {g : Bool} (hx : exprs op = some e.length) (hs : (if op = 12 ∨ op = 15 then isName s else decide (s = [])) = true) (h0 : 0 ≤ n) (h16 : n ≤ 16) (hn : op = 14 ∨ n = 0) (hg : op = 16 ∨ g = false)
  (hb : (op = 13 ∨ op = 14 ∨ op = 16) ∨ b = []) (hc : op = 13 ∨ c = []) (he : Ex.oks e 8 = true) : shapeOk op s n e b c g = true := by
 unfold shapeOk
 rw [hx]
 simp only [hs, he, Bool.and_true, Bool.true_and, Bool.and_eq_true, Bool.or_eq_true, decide_eq_true_eq, Bool.not_eq_true']
 exact ⟨trivial, h0, h16, hn, hg, hb, hc⟩
theorem simple_rng17 {w : Wx} {op : Int} (h : simpleP w = some op) : (1 ≤ op ∧ op ≤ 11) ∨ op = 17 ∨ op = 18 := by
 unfold simpleP at h
 by_cases h4 : w.kind = 4
 ·rw [if_pos h4] at h
  by_cases k0 : w.s = kCreate
  ·rw [if_pos k0] at h; cases h; omega
  rw [if_neg k0] at h
  by_cases k1 : w.s = kMkdir
  ·rw [if_pos k1] at h; cases h; omega
  rw [if_neg k1] at h
  by_cases k2 : w.s = kWrite
  ·rw [if_pos k2] at h; cases h; omega
  rw [if_neg k2] at h
  by_cases k3 : w.s = kAppend
  ·rw [if_pos k3] at h; cases h; omega
  rw [if_neg k3] at h
  by_cases k4 : w.s = kTruncate
  ·rw [if_pos k4] at h; cases h; omega
  rw [if_neg k4] at h
  by_cases k5 : w.s = kRename
  ·rw [if_pos k5] at h; cases h; omega
  rw [if_neg k5] at h
  by_cases k6 : w.s = kUnlink
  ·rw [if_pos k6] at h; cases h; omega
  rw [if_neg k6] at h
  by_cases k7 : w.s = kFsync
  ·rw [if_pos k7] at h; cases h; omega
  rw [if_neg k7] at h
  by_cases k8 : w.s = kFdatasync
  ·rw [if_pos k8] at h; cases h; omega
  rw [if_neg k8] at h
  by_cases k9 : w.s = kSyncdir
  ·rw [if_pos k9] at h; cases h; omega
  rw [if_neg k9] at h
  by_cases k10 : w.s = kReplay
  ·rw [if_pos k10] at h; cases h; omega
  rw [if_neg k10] at h
  by_cases k11 : w.s = kAssert
  ·rw [if_pos k11] at h; cases h; omega
  rw [if_neg k11] at h
  by_cases k12 : w.s = kBarrier
  ·rw [if_pos k12] at h; cases h; omega
  rw [if_neg k12] at h
  cases h
 ·rw [if_neg h4] at h; cases h
theorem simple_wr17 {w : Wx} {op : Int} (h : simpleP w = some op) (hw : w.s = kWrite) : op = 3 := by
 unfold simpleP at h
 by_cases h4 : w.kind = 4
 ·rw [if_pos h4, hw] at h
  exact (Option.some.inj h).symm
 ·rw [if_neg h4] at h; cases h
structure SFine (d : Nat) (s : PS) (x : Sm × PS) : Prop where
 ok : x.1.ok d = true
 size : x.1.size + 2 * x.2.left.length ≤ 2 * s.left.length
 cnt : (x.1.flat.length : Int) + s.st ≤ x.2.st
 write : (s.sees [kWrite]).isSome → x.1.op = 3
def FineS (L : Int) (m : Nat) (stm : SF) : Prop := ∀ (d : Nat) (s : PS), s.good → s.fed L → s.left.length ≤ m → (stm d s).2.clean → SFine d s (stm d s)
def BFine (d : Nat) (s : PS) (l : List Sm) (x : List Sm × PS) : Prop := ∃ m, x.1 = l ++ m ∧ Sm.oks m d = true ∧ Sm.sizes m + 2 * x.2.left.length ≤ 2 * s.left.length ∧ ((Sm.flats m).length : Int) + s.st ≤ x.2.st
section
variable {L : Int} (hL : 0 ≤ L) {m : Nat} {stm : SF} (hto : ∀ d, Goes' (stm d)) (hled : ∀ d, Leads true (stm d)) (hS : FineS L m stm)
include hL hto hled hS
theorem blockG_fine (d : Nat) : ∀ (k : Nat) (l : List Sm) (s : PS), s.good → s.fed L → s.left.length ≤ m → (blockG (stm d) k l s).2.clean → BFine d s l (blockG (stm d) k l s)
 | 0, l, s, hs, hf, hl, hc => ⟨[], by simp [blockG], rfl, by simp [blockG, Sm.sizes], by simp [blockG, Sm.flats]⟩
 | k + 1, l, s, hs, hf, hl, hc => by
  unfold blockG at hc ⊢
  by_cases h0 : ¬ s.clean
  ·rw [if_pos h0] at hc; exact absurd hc h0
  rw [if_neg h0] at hc ⊢
  obtain ⟨o, r, hr⟩ : ∃ o r, s.takes [gRb] = (o, r) := ⟨_, _, rfl⟩
  rw [hr] at hc ⊢
  cases o with
  | some t =>
   obtain ⟨_, _, gto, hln, _, _⟩ := takes_some hs hr
   have hst := (takes_led' (b := false) hr).st
   exact ⟨[], by simp, rfl, by simp only [Sm.sizes]; omega, by simp only [Sm.flats, List.length_nil]; omega⟩
  | none =>
   obtain ⟨rfl, _⟩ := takes_none hr
   dsimp only at hc ⊢
   have g1 := hto d r hs
   have hc1 := (blockG_to (hto d) k _ _ g1.good).clean hc
   have S := hS d r hs hf hl hc1
   obtain ⟨m', e1, e2, e3, e4⟩ := blockG_fine d k (l ++ [(stm d r).1]) _ g1.good ((hled d r).fed hL hf) (Nat.le_trans g1.len hl) hc
   have s1 := S.size
   have s2 := S.cnt
   exact ⟨(stm d r).1 :: m', by rw [e1]; simp, by simp [Sm.oks, S.ok, e2], by simp only [Sm.sizes]; omega, by simp only [Sm.flats, List.length_append]; omega⟩
theorem blockP_fine (d : Nat) {s : PS} (hs : s.good) (hf : s.fed L) (hl : s.left.length ≤ m) (hc : (blockP stm m d s).2.clean) :
  Sm.oks (blockP stm m d s).1 d = true ∧ Sm.sizes (blockP stm m d s).1 + 2 * (blockP stm m d s).2.left.length + 2 ≤ 2 * s.left.length ∧ ((Sm.flats (blockP stm m d s).1).length : Int) + s.st ≤ (blockP stm m d s).2.st := by
 have g1 := wants_to hs gLb
 have hc1 : (s.wants gLb).clean := (blockG_to (hto d) m [] _ g1.good).clean hc
 have hw := (wants_clean hs hc1).2
 have hst := (wants_led (b := false) s gLb).st
 obtain ⟨m', e1, e2, e3, e4⟩ := blockG_fine hL hto hled hS d m [] _ g1.good ((wants_led (b := false) s gLb).fed hL hf) (Nat.le_trans g1.len hl) hc
 rw [List.nil_append] at e1
 have e : blockP stm m d s = blockG (stm d) m [] (s.wants gLb) := rfl
 rw [e, e1]
 exact ⟨e2, by omega, by omega⟩
theorem txnG_fine (d : Nat) : ∀ (k : Nat) (l : List Sm) (s : PS), s.good → s.fed L → s.left.length ≤ m → (txnG (stm d) k l s).2.clean →
  ∃ m', (txnG (stm d) k l s).1 = l ++ m' ∧ m'.length ≤ k ∧ (∀ x ∈ m', x.op = 3) ∧ Sm.oks m' d = true ∧ Sm.sizes m' + 2 * (txnG (stm d) k l s).2.left.length ≤ 2 * s.left.length ∧ ((Sm.flats m').length : Int) + s.st ≤ (txnG (stm d) k l s).2.st
 | 0, l, s, hs, hf, hl, hc => by
  unfold txnG at hc ⊢
  by_cases h0 : (s.sees [kWrite]).isSome
  ·rw [if_pos h0] at hc; exact absurd hc (fail_dirty (by omega) _)
  ·rw [if_neg h0]
   exact ⟨[], by simp, by simp, by simp, rfl, by simp [Sm.sizes], by simp [Sm.flats]⟩
 | k + 1, l, s, hs, hf, hl, hc => by
  unfold txnG at hc ⊢
  by_cases h0 : (s.sees [kWrite]).isSome
  ·rw [if_pos h0] at hc ⊢
   have g1 := hto d s hs
   have hc1 := (txnG_to (hto d) k _ _ g1.good).clean hc
   have S := hS d s hs hf hl hc1
   obtain ⟨m', e1, e5, e6, e2, e3, e4⟩ := txnG_fine d k (l ++ [(stm d s).1]) _ g1.good ((hled d s).fed hL hf) (Nat.le_trans g1.len hl) hc
   have s1 := S.size
   have s2 := S.cnt
   refine ⟨(stm d s).1 :: m', by rw [e1]; simp, by simp; omega, ?_, by simp [Sm.oks, S.ok, e2], by simp only [Sm.sizes]; omega, by simp only [Sm.flats, List.length_append]; omega⟩
   intro x hx
   rcases List.mem_cons.1 hx with rfl | hx
   ·exact S.write h0
   ·exact e6 x hx
  ·rw [if_neg h0]
   exact ⟨[], by simp, by simp, by simp, rfl, by simp [Sm.sizes], by simp [Sm.flats]⟩
structure CFine (d : Nat) (s : PS) (x : Sm × PS) : Prop where
 ok : x.1.ok d = true
 size : x.1.size + 2 * x.2.left.length ≤ 2 * s.left.length + 2
 cnt : (x.1.flat.length : Int) + s.st ≤ x.2.st + 1
theorem loop_fine {d : Nat} (hd : d ≤ 8) {s : PS} (hs : s.good) (hf : s.fed L) (hl : s.left.length ≤ m) (hc : (loopP stm m d s).2.clean) : CFine d s (loopP stm m d s) := by
 have g1 := of_to hs 2
 have hfo := (of_led (b := false) s 2).fed hL hf
 have hst := (of_led (b := false) s 2).st
 unfold loopP at hc ⊢
 dsimp only at hc ⊢
 have e1 : ((d : Int) + 1) = ((d + 1 : Nat) : Int) := rfl
 rw [e1] at hc ⊢
 by_cases h16 : 16 < (s.of 2).1.n
 ·rw [if_pos h16] at hc
  have g2 := fail_to g1.good (show (14 : Int) ≠ 0 by omega) (s.of 2).1
  exact absurd ((blockP_to (hto (d + 1 : Nat)) m _ g2.good).clean hc) (fail_dirty (by omega) _)
 ·rw [if_neg h16] at hc ⊢
  have hc1 := (blockP_to (hto (d + 1 : Nat)) m _ g1.good).clean hc
  obtain ⟨_, hk, ho⟩ := of_clean hs hc1
  have hn := (hf.head hL).num hk
  obtain ⟨b1, b2, b3⟩ := blockP_fine hL hto hled hS (d + 1) g1.good hfo (Nat.le_trans g1.len hl) hc
  have hw : (s.of 2).1.n = s.head.n := by rw [ho]
  have l1 := g1.len
  rw [hw] at h16 ⊢
  refine ⟨?_, ?_, ?_⟩
  ·simp only [Sm.ok, hd, decide_true, Bool.true_and, b1, Sm.oks, Bool.and_true]
   rw [shape_mk rfl (by simp) hn.1 (by omega) (.inl rfl) (.inr rfl) (.inl (by simp)) (.inr rfl) rfl]
   simp [txnOk]
  ·simp only [Sm.size, Ex.sizes, Sm.sizes]; omega
  ·simp only [Sm.flat, Sm.flats, List.append_nil, List.length_cons]; omega
theorem choice_fine {d : Nat} (hd : d ≤ 8) {s : PS} (hs : s.good) (hf : s.fed L) (hl : s.left.length ≤ m) (hc : (choiceP stm m d s).2.clean) : CFine d s (choiceP stm m d s) := by
 have g1 := wholeP_to gLb m s hs
 have f1 := (wholeP_led (b := false) gLb m s).fed hL hf
 have st1 := (wholeP_led (b := false) gLb m s).st
 have g2 := blockP_to (hto (d + 1 : Nat)) m _ g1.good
 have f2 := (blockP_led (hled (d + 1 : Nat)) m (wholeP gLb m s).2).fed hL f1
 unfold choiceP at hc ⊢
 dsimp only at hc ⊢
 have e1 : ((d : Int) + 1) = ((d + 1 : Nat) : Int) := rfl
 rw [e1] at hc ⊢
 have B := fun h => blockP_fine hL hto hled hS (d + 1) g1.good f1 (Nat.le_trans g1.len hl) h
 have W := fun h => whole_ok hL (t := gLb) hs hf hl h
 have l1 := g1.len
 have l2 := g2.len
 obtain ⟨o, r, hr⟩ : ∃ o r, (blockP stm m ((d + 1 : Nat) : Int) (wholeP gLb m s).2).2.takes [kElse] = (o, r) := ⟨_, _, rfl⟩
 rw [hr] at hc ⊢
 cases o with
 | none =>
  obtain ⟨hrr, _⟩ := takes_none hr
  dsimp only at hc ⊢
  rw [hrr] at hc ⊢
  have hc1 := g2.clean hc
  obtain ⟨b1, b2, b3⟩ := B hc
  obtain ⟨w1, w2⟩ := W hc1
  refine ⟨?_, ?_, ?_⟩
  ·simp only [Sm.ok, hd, decide_true, Bool.true_and, b1, Sm.oks, Bool.and_true]
   rw [shape_mk rfl (by simp) (by omega) (by omega) (.inr rfl) (.inr rfl) (.inl (by simp)) (.inl rfl) (by simp [Ex.oks, w1])]
   simp [txnOk]
  ·simp only [Sm.size, Ex.sizes, Sm.sizes]; omega
  ·simp only [Sm.flat, Sm.flats, List.append_nil, List.length_cons]; omega
 | some t =>
  dsimp only at hc ⊢
  obtain ⟨_, _, gt, hln, _, hcb⟩ := takes_some g2.good hr
  have ft := (takes_led' (b := true) hr).fed hL f2
  have stt := (takes_led' (b := false) hr).st
  have hc1 := g2.clean hcb
  obtain ⟨b1, b2, b3⟩ := B hcb
  obtain ⟨w1, w2⟩ := W hc1
  obtain ⟨c1, c2, c3⟩ := blockP_fine hL hto hled hS (d + 1) gt.good ft (by omega) hc
  refine ⟨?_, ?_, ?_⟩
  ·simp only [Sm.ok, hd, decide_true, Bool.true_and, b1, c1, Sm.oks, Bool.and_true]
   rw [shape_mk rfl (by simp) (by omega) (by omega) (.inr rfl) (.inr rfl) (.inl (by simp)) (.inl rfl) (by simp [Ex.oks, w1])]
   simp [txnOk]
  ·simp only [Sm.size, Ex.sizes, Sm.sizes]; omega
  ·simp only [Sm.flat, Sm.flats, List.length_append, List.length_cons]; omega
theorem txn_fine {d : Nat} (hd : d ≤ 8) {s : PS} (hs : s.good) (hf : s.fed L) (hl : s.left.length ≤ m) (hc : (txnP stm m d s).2.clean) : CFine d s (txnP stm m d s) := by
 unfold txnP at hc ⊢
 dsimp only at hc ⊢
 have e1 : ((d : Int) + 1) = ((d + 1 : Nat) : Int) := rfl
 rw [e1] at hc ⊢
 have g1 := wholeP_to gLb m s hs
 have d1 := wholeP_led (b := true) gLb m s
 have t1 := (wholeP_led (b := false) gLb m s).st
 have g2 := wants_to g1.good gLb
 have d2 := d1.trans (wants_led _ gLb)
 have t2 := (wants_led (b := false) (wholeP gLb m s).2 gLb).st
 have g3 := txnG_to (hto (d + 1 : Nat)) 8 [] _ g2.good
 obtain ⟨T, hT⟩ : ∃ T, T = txnG (stm ((d + 1 : Nat) : Int)) 8 [] ((wholeP gLb m s).2.wants gLb) := ⟨_, rfl⟩
 rw [← hT] at hc g3 ⊢
 have g4 := wants_to g3.good gRb
 have g5 := takes_to g4.good [kCommit]
 have t4 := (wants_led (b := false) T.2 gRb).st
 have t5 := (takes_led (b := false) (T.2.wants gRb) [kCommit]).st
 have c5 := (wants_clean g5.good hc).1
 have t6 := (wants_led (b := false) ((T.2.wants gRb).takes [kCommit]).2 gSe).st
 have c4 := g5.clean c5
 have c3 := (wants_clean g3.good c4).1
 have c2 := g3.clean c3
 have c1 := (wants_clean g1.good c2).1
 have w6 := (wants_clean g5.good hc).2
 have w4 := (wants_clean g3.good c4).2
 have w2 := (wants_clean g1.good c2).2
 have l5 := g5.len
 have l1 := g1.len
 have l2 := g2.len
 obtain ⟨w1, ws⟩ := whole_ok hL (t := gLb) hs hf hl c1
 obtain ⟨m', e1', e5, e6, e2, e3, e4⟩ := txnG_fine hL hto hled hS (d + 1) 8 [] _ g2.good (d2.fed hL hf) (by omega) (by rw [← hT]; exact c3)
 rw [← hT] at e1' e3 e4
 rw [List.nil_append] at e1'
 rw [e1']
 refine ⟨?_, ?_, ?_⟩
 ·simp only [Sm.ok, hd, decide_true, Bool.true_and, e2, Sm.oks, Bool.and_true]
  rw [shape_mk rfl (by simp) (by omega) (by omega) (.inr rfl) (.inl rfl) (.inl (by simp)) (.inr rfl) (by simp [Ex.oks, w1])]
  simp only [txnOk, Bool.true_and, Bool.or_eq_true, Bool.and_eq_true, decide_eq_true_eq, List.all_eq_true]
  exact .inr ⟨e5, e6⟩
 ·simp only [Sm.size, Ex.sizes, Sm.sizes]; omega
 ·simp only [Sm.flat, Sm.flats, List.append_nil, List.length_cons]; omega
omit hto hled hS in
theorem let_fine {d : Nat} (hd : d ≤ 8) {s : PS} (hs : s.good) (hf : s.fed L) (hl : s.left.length ≤ m) (hc : (letP m s).2.clean) : CFine d s (letP m s) := by
 have g1 := of_to hs 1
 have g2 := wants_to g1.good [61]
 have d2 := (of_led (b := false) s 1).trans (wants_led _ [61])
 have d3 := d2.trans (exprsP_led m 12 _)
 have st := d3.st
 unfold letP at hc ⊢
 dsimp only at hc ⊢
 have c2 := (exprsP_to m 12 _ g2.good).clean hc
 have c1 := (wants_clean g1.good c2).1
 have w2 := (wants_clean g1.good c2).2
 obtain ⟨_, hk, ho⟩ := of_clean hs c1
 have hn := (hf.head hL).name hk
 have l1 := g1.len
 obtain ⟨x1, x2, x3⟩ := exprsP_ok hL (op := 12) g2.good (d2.fed hL hf) (by omega) hc
 have hw : (s.of 1).1.s = s.head.s := by rw [ho]
 rw [hw]
 refine ⟨?_, ?_, ?_⟩
 ·simp only [Sm.ok, hd, decide_true, Bool.true_and, Sm.oks, Bool.and_true]
  rw [shape_mk (by rw [x1]; rfl) (by simp [hn]) (by omega) (by omega) (.inr rfl) (.inr rfl) (.inr rfl) (.inr rfl) x2]
  simp [txnOk]
 ·simp only [Sm.size, Sm.sizes]; omega
 ·simp only [Sm.flat, Sm.flats, List.append_nil, List.length_cons, List.length_nil]; omega
omit hto hled hS in
theorem call_fine {d : Nat} (hd : d ≤ 8) {s : PS} (hs : s.good) (hf : s.fed L) (hl : s.left.length ≤ m) (hc : (callP m s).2.clean) : CFine d s (callP m s) := by
 have g1 := of_to hs 1
 have d1 := of_led (b := false) s 1
 have d3 := d1.trans (exprsP_led m 15 _)
 have st := d3.st
 unfold callP at hc ⊢
 dsimp only at hc ⊢
 have c1 := (exprsP_to m 15 _ g1.good).clean hc
 obtain ⟨_, hk, ho⟩ := of_clean hs c1
 have hn := (hf.head hL).name hk
 have l1 := g1.len
 obtain ⟨x1, x2, x3⟩ := exprsP_ok hL (op := 15) g1.good (d1.fed hL hf) (by omega) hc
 have hw : (s.of 1).1.s = s.head.s := by rw [ho]
 rw [hw]
 refine ⟨?_, ?_, ?_⟩
 ·simp only [Sm.ok, hd, decide_true, Bool.true_and, Sm.oks, Bool.and_true]
  rw [shape_mk (by rw [x1]; rfl) (by simp [hn]) (by omega) (by omega) (.inr rfl) (.inr rfl) (.inr rfl) (.inr rfl) x2]
  simp [txnOk]
 ·simp only [Sm.size, Sm.sizes]; omega
 ·simp only [Sm.flat, Sm.flats, List.append_nil, List.length_cons, List.length_nil]; omega
theorem stmtB_fine : FineS L (m + 1) (stmtB stm m) := fun d s hs hf hl hc => by
 have hstB := stmtB_to hto m d s hs
 have hwr : ∀ t, s.sees [kLet, kCall, kIf, kRepeat, kTxn] = some t → ¬ (s.sees [kWrite]).isSome := by
  intro t ht hw
  obtain ⟨u, hu⟩ := Option.isSome_iff_exists.1 hw
  have h1 := sees_kind ht
  have h2 := sees_kind hu
  have h3 := h2.2.2
  simp only [List.mem_cons, List.not_mem_nil, or_false] at h3
  have h4 := h1.2.2
  rw [h1.2.1, ← h2.2.1, h3] at h4
  revert h4
  decide
 unfold stmtB at hc ⊢
 dsimp only at hc ⊢
 by_cases hno : (simpleP s.head).isNone ∧ (s.sees [kLet, kCall, kIf, kRepeat, kTxn]).isNone
 ·rw [if_pos hno] at hc; exact absurd hc (fail_dirty (by omega) _)
 rw [if_neg hno] at hc ⊢
 by_cases hlim : 256 < s.st + 1 ∨ 8 < (d : Int)
 ·rw [if_pos hlim] at hc; exact absurd hc (fail_dirty (by omega) _)
 rw [if_neg hlim] at hc ⊢
 have hk : s.head.kind ≠ 0 := by
  cases ho : s.sees [kLet, kCall, kIf, kRepeat, kTxn] with
  | some t => exact (sees_kind ho).1
  | none =>
   refine simple_kind ?_
   cases hq : (simpleP s.head).isNone with
   | false => rfl
   | true => exact absurd ⟨hq, by rw [ho]; rfl⟩ hno
 have h2 := hs.two hk
 have h1 := st_skip hs hk
 have e : PS.skip ⟨s.left, s.fe, s.fa, s.st + 1, s.o⟩ = ⟨s.left.tail, s.fe, s.fa, s.st + 1, false⟩ := skip_two h2
 have hd : d ≤ 8 := by omega
 have hfr : (PS.skip ⟨s.left, s.fe, s.fa, s.st + 1, s.o⟩).fed L := by
  rw [e]
  exact ⟨fun w hw => hf.words w (List.mem_of_mem_tail hw), hf.place, hf.none⟩
 have hlr : (PS.skip ⟨s.left, s.fe, s.fa, s.st + 1, s.o⟩).left.length + 1 = s.left.length := by rw [e]; simp only [List.length_tail]; omega
 have hstr : (PS.skip ⟨s.left, s.fe, s.fa, s.st + 1, s.o⟩).st = s.st + 1 := by rw [e]
 generalize PS.skip ⟨s.left, s.fe, s.fa, s.st + 1, s.o⟩ = r at hc h1 hfr hlr hstr ⊢
 have hg := h1.good
 cases ho : s.sees [kLet, kCall, kIf, kRepeat, kTxn] with
 | none =>
  rw [ho] at hc hno
  dsimp only at hc ⊢
  obtain ⟨op, hop⟩ : ∃ op, simpleP s.head = some op := by
   cases hq : simpleP s.head with
   | some op => exact ⟨op, rfl⟩
   | none => exact absurd ⟨by rw [hq]; rfl, rfl⟩ hno
  rw [hop] at hc ⊢
  simp only [Option.getD_some] at hc ⊢
  have hrg := simple_rng17 hop
  obtain ⟨x1, x2, x3⟩ := exprsP_ok hL hg hfr (by omega) hc
  have st := (exprsP_led (b := false) m op r).st
  refine ⟨?_, ?_, ?_, ?_⟩
  ·simp only [Sm.ok, hd, decide_true, Bool.true_and, Sm.oks, Bool.and_true]
   rw [shape_mk (by rw [x1]; exact exprs_nEx op (by omega) (by omega)) (by rw [if_neg (by omega)]; simp) (by omega) (by omega) (.inr rfl) (.inr rfl) (.inr rfl) (.inr rfl) x2]
   have : op ≠ 16 := by omega
   simp [txnOk, this]
  ·simp only [Sm.size, Sm.sizes]; omega
  ·simp only [Sm.flat, Sm.flats, List.append_nil, List.length_cons, List.length_nil]; omega
  ·intro hw
   obtain ⟨u, hu⟩ := Option.isSome_iff_exists.1 hw
   have h2 := sees_kind hu
   have h3 := h2.2.2
   simp only [List.mem_cons, List.not_mem_nil, or_false] at h3
   exact simple_wr17 hop (by rw [← h2.2.1, h3])
 | some t =>
  rw [ho] at hc
  dsimp only at hc ⊢
  have hnw := hwr t ho
  have fin : ∀ x : Sm × PS, CFine d r x → SFine d s x := fun x C => ⟨C.ok, by have := C.size; omega, by have := C.cnt; omega, fun h => absurd h hnw⟩
  by_cases k1 : t = kLet
  ·rw [if_pos k1] at hc ⊢
   exact fin _ (let_fine hL hd hg hfr (by omega) hc)
  rw [if_neg k1] at hc ⊢
  by_cases k2 : t = kCall
  ·rw [if_pos k2] at hc ⊢
   exact fin _ (call_fine hL hd hg hfr (by omega) hc)
  rw [if_neg k2] at hc ⊢
  by_cases k3 : t = kIf
  ·rw [if_pos k3] at hc ⊢
   exact fin _ (choice_fine hL hto hled hS hd hg hfr (by omega) hc)
  rw [if_neg k3] at hc ⊢
  by_cases k4 : t = kRepeat
  ·rw [if_pos k4] at hc ⊢
   exact fin _ (loop_fine hL hto hled hS hd hg hfr (by omega) hc)
  rw [if_neg k4] at hc ⊢
  exact fin _ (txn_fine hL hto hled hS hd hg hfr (by omega) hc)
end
theorem stmtP_fine {L : Int} (hL : 0 ≤ L) : ∀ n, FineS L n (stmtP n)
 | 0 => fun d s hs hf hl hc => by have := hs.pos; omega
 | n + 1 => stmtB_fine hL (stmtP_to n) (stmtP_led n) (stmtP_fine hL n)
section
variable {L : Int} (hL : 0 ≤ L) {n : Nat}
include hL
theorem named_clean {key : List UInt8} {q : Nat} {s r : PS} (hs : s.good) (hf : s.fed L) {nm : List UInt8} (h : namedP key q s = (some nm, r)) (hc : r.clean) : q ≠ 16 ∧ isName nm = true ∧ r.left.length + 2 = s.left.length ∧ r.good ∧ r.fed L ∧ r.st = s.st := by
 have hled := namedP_led (b := false) key q s
 rw [h] at hled
 have hfr := hled.fed hL hf
 have hst := hled.st
 have hto := namedP_to key q s hs
 rw [h] at hto
 unfold namedP at h
 obtain ⟨o, s1, ho⟩ : ∃ o r, s.takes [key] = (o, r) := ⟨_, _, rfl⟩
 rw [ho] at h
 cases o with
 | none => cases h
 | some t =>
  obtain ⟨_, _, g1, hln, _, _⟩ := takes_some hs ho
  have f1 := (takes_led' (b := false) ho).fed hL hf
  dsimp only at h
  by_cases h16 : q = 16
  ·rw [if_pos h16] at h
   have g2 := fail_to g1.good (show (14 : Int) ≠ 0 by omega) s.head
   have g3 := of_to g2.good 1
   have e : r = ((s1.fail 14 s.head).of 1).2 := by cases h; rfl
   rw [e] at hc
   exact absurd (g3.clean hc) (fail_dirty (by omega) _)
  ·rw [if_neg h16] at h
   have e : r = (s1.of 1).2 := by cases h; rfl
   have e' : nm = (s1.of 1).1.s := by cases h; rfl
   rw [e] at hc
   obtain ⟨_, hk, ho1⟩ := of_clean g1.good hc
   have hn := (f1.head hL).name hk
   have hsk := skip_good g1.good (by omega)
   refine ⟨h16, by rw [e', ho1]; exact hn, ?_, hto.good, hfr, hst⟩
   rw [e, ho1]
   show s1.skip.left.length + 2 = _
   omega
omit hL in
theorem named_none {key : List UInt8} {q : Nat} {s r : PS} (h : namedP key q s = (none, r)) : r = s := by
 unfold namedP at h
 obtain ⟨o, s1, ho⟩ : ∃ o r, s.takes [key] = (o, r) := ⟨_, _, rfl⟩
 rw [ho] at h
 cases o with
 | none => obtain ⟨rfl, _⟩ := takes_none ho; cases h; rfl
 | some t => cases h
theorem procsG_fine : ∀ (k : Nat) (l : List (List UInt8 × List Sm)) (s : PS), s.good → s.fed L → s.left.length ≤ n → l.length ≤ 16 → (procsG (stmtP n) n k l s).2.clean →
  ∃ m, (procsG (stmtP n) n k l s).1 = l ++ m ∧ (l ++ m).length ≤ 16 ∧ (∀ x ∈ m, isName x.1 = true ∧ Sm.oks x.2 1 = true) ∧ (m.map fun x => 1 + Sm.sizes x.2).sum + 2 * (procsG (stmtP n) n k l s).2.left.length ≤ 2 * s.left.length
   ∧ ((Sm.flats (m.map (·.2)).flatten).length : Int) + s.st ≤ (procsG (stmtP n) n k l s).2.st
 | 0, l, s, hs, hf, hl, h16, hc => ⟨[], by simp [procsG], by simpa using h16, by simp, by simp [procsG], by simp [procsG, Sm.flats]⟩
 | k + 1, l, s, hs, hf, hl, h16, hc => by
  unfold procsG at hc ⊢
  obtain ⟨o, r, ho⟩ : ∃ o r, namedP kProc l.length s = (o, r) := ⟨_, _, rfl⟩
  rw [ho] at hc ⊢
  cases o with
  | none =>
   have := named_none ho
   subst this
   exact ⟨[], by simp, by simpa using h16, by simp, by simp, by simp [Sm.flats]⟩
  | some nm =>
   dsimp only at hc ⊢
   have gn := namedP_to kProc l.length s hs
   rw [ho] at gn
   dsimp only at gn
   have gb := blockP_to (stmtP_to n 1) n r gn.good
   have cb := (procsG_to (len := n) (stmtP_to n) k _ _ gb.good).clean hc
   have cr := gb.clean cb
   obtain ⟨q16, qn, ql, qg, qf, qs⟩ := named_clean hL hs hf ho cr
   obtain ⟨b1, b2, b3⟩ := blockP_fine hL (stmtP_to n) (stmtP_led n) (stmtP_fine hL n) 1 qg qf (by omega) cb
   have fb := (blockP_led (stmtP_led n 1) n r).fed hL qf
   have lb := gb.len
   obtain ⟨m, e1, e2, e3, e4, e5⟩ := procsG_fine k (l ++ [(nm, (blockP (stmtP n) n 1 r).1)]) _ gb.good fb (by omega) (by simp; omega) hc
   have b1' : Sm.oks (blockP (stmtP n) n 1 r).1 1 = true := b1
   have b2' : Sm.sizes (blockP (stmtP n) n 1 r).1 + 2 * (blockP (stmtP n) n 1 r).2.left.length + 2 ≤ 2 * r.left.length := b2
   have b3' : ((Sm.flats (blockP (stmtP n) n 1 r).1).length : Int) + r.st ≤ (blockP (stmtP n) n 1 r).2.st := b3
   refine ⟨(nm, (blockP (stmtP n) n 1 r).1) :: m, by rw [e1]; simp, by simpa using e2, ?_, ?_, ?_⟩
   ·intro x hx
    rcases List.mem_cons.1 hx with rfl | hx
    ·exact ⟨qn, b1'⟩
    ·exact e3 x hx
   ·simp only [List.map_cons, List.sum_cons]; omega
   ·simp only [List.map_cons, List.flatten_cons, Sm.flats_append, List.length_append]; omega
theorem oraclesG_fine : ∀ (k : Nat) (l : List (List UInt8 × Ex)) (s : PS), s.good → s.fed L → s.left.length ≤ n → l.length ≤ 16 → (oraclesG n k l s).2.clean →
  ∃ m, (oraclesG n k l s).1 = l ++ m ∧ (l ++ m).length ≤ 16 ∧ (∀ x ∈ m, isName x.1 = true ∧ x.2.ok 8 = true) ∧ (m.map fun x => 1 + x.2.size).sum + 2 * (oraclesG n k l s).2.left.length ≤ 2 * s.left.length
 | 0, l, s, hs, hf, hl, h16, hc => ⟨[], by simp [oraclesG], by simpa using h16, by simp, by simp [oraclesG]⟩
 | k + 1, l, s, hs, hf, hl, h16, hc => by
  unfold oraclesG at hc ⊢
  obtain ⟨o, r, ho⟩ : ∃ o r, namedP kOracle l.length s = (o, r) := ⟨_, _, rfl⟩
  rw [ho] at hc ⊢
  cases o with
  | none =>
   have := named_none ho
   subst this
   exact ⟨[], by simp, by simpa using h16, by simp, by simp⟩
  | some nm =>
   dsimp only at hc ⊢
   have gn := namedP_to kOracle l.length s hs
   rw [ho] at gn
   dsimp only at gn
   have g1 := wants_to gn.good gCl
   have g2 := wholeP_to gSe n _ g1.good
   have g3 := wants_to g2.good gSe
   have c3 := (oraclesG_to (len := n) k _ _ g3.good).clean hc
   obtain ⟨c2, w3⟩ := wants_clean g2.good c3
   have c1 := g2.clean c2
   obtain ⟨c0, w1⟩ := wants_clean gn.good c1
   obtain ⟨q16, qn, ql, qg, qf, qs⟩ := named_clean hL hs hf ho c0
   have f1 := (wants_led (b := false) r gCl).fed hL qf
   have f2 := (wholeP_led (b := false) gSe n (r.wants gCl)).fed hL f1
   have f3 := (wants_led (b := false) (wholeP gSe n (r.wants gCl)).2 gSe).fed hL f2
   have l1 := g1.len
   have l2 := g2.len
   have l3 := g3.len
   obtain ⟨x1, x2⟩ := whole_ok hL (t := gSe) g1.good f1 (by omega) c2
   obtain ⟨m, e1, e2, e3, e4⟩ := oraclesG_fine k (l ++ [(nm, (wholeP gSe n (r.wants gCl)).1)]) _ g3.good f3 (by omega) (by simp; omega) hc
   refine ⟨(nm, (wholeP gSe n (r.wants gCl)).1) :: m, by rw [e1]; simp, by simpa using e2, ?_, ?_⟩
   ·intro x hx
    rcases List.mem_cons.1 hx with rfl | hx
    ·exact ⟨qn, x1⟩
    ·exact e3 x hx
   ·simp only [List.map_cons, List.sum_cons]; omega
theorem program_ok {s : PS} (hs : s.good) (hf : s.fed L) (hl : s.left.length ≤ n) (h0 : s.st = 0) (hc : (programP n s).2.clean) : (programP n s).1.ok = true ∧ (programP n s).1.size ≤ 2 * s.left.length := by
 have hmost := (programP_led n s).most (fun _ => by omega) hc
 unfold programP at hc hmost ⊢
 dsimp only at hc hmost ⊢
 have ga := procsG_to (len := n) (stmtP_to n) n [] s hs
 have fa := (procsG_led (len := n) (stmtP_led n) n [] s).fed hL hf
 have PA := fun hh => procsG_fine hL (n := n) n [] s hs hf hl (by simp) hh
 obtain ⟨A, s1, hA⟩ : ∃ A s1, procsG (stmtP n) n n [] s = (A, s1) := ⟨_, _, rfl⟩
 simp only [hA] at hc hmost ga fa PA ⊢
 have g1 := wants_to ga.good kMain
 have f1 := (wants_led (b := false) s1 kMain).fed hL fa
 have t1 := (wants_led (b := false) s1 kMain).st
 have gB := blockP_to (stmtP_to n 1) n _ g1.good
 have fB := (blockP_led (stmtP_led n 1) n (s1.wants kMain)).fed hL f1
 have PB := fun hl hh => blockP_fine hL (stmtP_to n) (stmtP_led n) (stmtP_fine hL n) 1 g1.good f1 hl hh
 have e1 : ((1 : Nat) : Int) = 1 := rfl
 rw [e1] at PB
 obtain ⟨B, s2, hB⟩ : ∃ B s2, blockP (stmtP n) n 1 (s1.wants kMain) = (B, s2) := ⟨_, _, rfl⟩
 simp only [hB] at hc hmost gB fB PB ⊢
 have gC := recP_to n s2 gB.good
 have fC := (recP_led n s2).fed hL fB
 have PC : (recP n s2).2.clean → Sm.oks (recP n s2).1 1 = true ∧ Sm.sizes (recP n s2).1 + 2 * (recP n s2).2.left.length ≤ 2 * s2.left.length ∧ ((Sm.flats (recP n s2).1).length : Int) + s2.st ≤ (recP n s2).2.st := by
  intro hh
  unfold recP at hh ⊢
  obtain ⟨o, r, ho⟩ : ∃ o r, s2.takes [kRecover] = (o, r) := ⟨_, _, rfl⟩
  rw [ho] at hh ⊢
  cases o with
  | none =>
   obtain ⟨rfl, _⟩ := takes_none ho
   exact ⟨rfl, by simp [Sm.sizes], by simp [Sm.flats]⟩
  | some t =>
   obtain ⟨_, _, gt, hln, _, _⟩ := takes_some gB.good ho
   have ft := (takes_led' (b := true) ho).fed hL fB
   have stt := (takes_led' (b := false) ho).st
   have l0 := ga.len
   have l1 := g1.len
   have l2 := gB.len
   have := blockP_fine hL (stmtP_to n) (stmtP_led n) (stmtP_fine hL n) 1 gt.good ft (by omega) hh
   rw [e1] at this
   obtain ⟨b1, b2, b3⟩ := this
   exact ⟨b1, by dsimp only; omega, by dsimp only; omega⟩
 obtain ⟨C, s3, hC⟩ : ∃ C s3, recP n s2 = (C, s3) := ⟨_, _, rfl⟩
 simp only [hC] at hc hmost gC fC PC ⊢
 have gO := oraclesG_to (len := n) n [] s3 gC.good
 have tO := (oraclesG_led (b := false) (len := n) n [] s3).st
 have PO := fun hl hh => oraclesG_fine hL (n := n) n [] s3 gC.good fC hl (by simp) hh
 obtain ⟨O, s4, hO⟩ : ∃ O s4, oraclesG n n [] s3 = (O, s4) := ⟨_, _, rfl⟩
 simp only [hO] at hc hmost gO tO PO ⊢
 have t5 := (of_led (b := false) s4 0).st
 have c4 := (of_clean gO.good hc).1
 have c3 := gO.clean c4
 have c2 := gC.clean c3
 have c1 := gB.clean c2
 have c0 := (wants_clean ga.good c1).1
 have l0 := ga.len
 have l1 := g1.len
 have l2 := gB.len
 have l3 := gC.len
 have l4 := gO.len
 obtain ⟨ma, a1, a2, a3, a4, a5⟩ := PA c0
 rw [List.nil_append] at a1 a2
 subst a1
 obtain ⟨b1, b2, b3⟩ := PB (by omega) c2
 obtain ⟨p1, p2, p3⟩ := PC c3
 obtain ⟨mo, o1, o2, o3, o4⟩ := PO (by omega) c4
 rw [List.nil_append] at o1 o2
 subst o1
 have hfl : (Pg.flats ⟨A, B, C, O⟩).length = (Sm.flats (A.map (·.2)).flatten).length + (Sm.flats B).length + (Sm.flats C).length := by
  simp only [Pg.flats, Pg.parts, List.flatten_append, List.flatten_cons, List.flatten_nil, List.append_nil, Sm.flats_append, List.length_append]
  omega
 refine ⟨?_, ?_⟩
 ·simp only [Pg.ok, Bool.and_eq_true, List.all_eq_true, decide_eq_true_eq]
  refine ⟨a2, o2, ?_, a3, o3, b1, p1⟩
  rw [hfl]
  omega
 ·simp only [Pg.size, Pg.psize, Pg.osize]
  omega
end
end Go.AM.Spec
