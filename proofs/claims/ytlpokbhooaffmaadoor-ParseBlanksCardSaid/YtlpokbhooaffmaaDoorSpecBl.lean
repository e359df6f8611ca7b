/-
  The parts of this proof that speak of the functions one by one.
-/
import Derived.Test.YtlpokbhooaffmaaDoorSpecPb
import Derived.Test.YtlpokbhooaffmaaDoorSpecWd
import Derived.Test.YtlpokbhooaffmaaDoorSpecTr
namespace Go.AM.Spec
set_option linter.unusedVariables false
set_option linter.unusedSimpArgs false
set_option maxRecDepth 10000
open PS

def Wx.mapA (φ : Int → Int) (w : Wx) : Wx := ⟨w.kind, w.s, w.n, φ w.a⟩
def PS.mapA (φ : Int → Int) (s : PS) : PS := ⟨s.left.map (Wx.mapA φ), s.fe, φ s.fa, s.st, s.o⟩
def PS.tame (s : PS) : Prop := s.fe = 0 → s.fa = 0

theorem fail_tame {s : PS} (h : s.tame) {e : Int} (he : e ≠ 0) (w : Wx) : (s.fail e w).tame := by
  intro h0
  have h0' : (if s.clean then e else s.fe) = 0 := h0
  show (if s.clean then w.a else s.fa) = 0
  by_cases hc : s.clean
  · rw [if_pos hc] at h0'; exact absurd h0' he
  · rw [if_neg hc] at h0' ⊢; exact h h0'
theorem Led.tame {b : Bool} {s r : PS} (h : Led b s r) (h0 : s.tame) : r.tame := by
  induction h with
  | refl => exact h0
  | skip _ ih =>
    unfold PS.skip
    split
    · exact ih
    · exact ih
  | fail _ he _ ih1 ih2 => exact fail_tame ih1 he _
  | none _ he ih => exact fail_tame ih he _
  | step hb _ hs ih => exact ih
  | @over r q e hb _ he _ ih1 ih2 =>
    have h1 : PS.tame ⟨r.left, r.fe, r.fa, r.st + 1, r.o⟩ := ih1
    exact fail_tame h1 he _

/-- A fault stands where a word stands. -/
theorem Led.where_ {b : Bool} {S : Int → Prop} (h0 : S 0) {s r : PS} (h : Led b s r) (hs : (∀ w ∈ s.left, S w.a) ∧ S s.fa) : (∀ w ∈ r.left, S w.a) ∧ S r.fa := by
  have hf : ∀ {r : PS} {e : Int} {w : Wx}, ((∀ w ∈ r.left, S w.a) ∧ S r.fa) → S w.a → ((∀ w ∈ (r.fail e w).left, S w.a) ∧ S (r.fail e w).fa) := by
    intro r e w hr hw
    refine ⟨fun x hx => ?_, ?_⟩
    · have : x = zw := by simpa [PS.fail] using hx
      rw [this]; exact h0
    · show S (if r.clean then w.a else r.fa)
      split
      · exact hw
      · exact hr.2
  have hh : ∀ {q : PS}, (∀ w ∈ q.left, S w.a) → S q.head.a := by
    intro q hq
    unfold PS.head
    cases hl : q.left with
    | nil => exact h0
    | cons w l => exact hq w (by rw [hl]; simp)
  induction h with
  | refl => exact hs
  | skip _ ih =>
    unfold PS.skip
    split
    · exact ⟨fun w hw => ih.1 w (List.mem_of_mem_tail hw), ih.2⟩
    · exact ih
  | fail _ he _ ih1 ih2 => exact hf ih1 (hh ih2.1)
  | none _ he ih => exact hf ih h0
  | step hb _ hs ih => exact ih
  | @over r q e hb _ he _ ih1 ih2 =>
    have h1 : (∀ w ∈ (PS.mk r.left r.fe r.fa (r.st + 1) r.o).left, S w.a) ∧ S (PS.mk r.left r.fe r.fa (r.st + 1) r.o).fa := ih1
    exact hf h1 (hh ih2.1)

section
variable {φ : Int → Int} (h0 : φ 0 = 0)
include h0

theorem map_zw : zw.mapA φ = zw := by simp [Wx.mapA, zw, h0]
theorem map_head (s : PS) : (s.mapA φ).head = s.head.mapA φ := by
  unfold PS.head PS.mapA
  cases s.left with
  | nil => exact (map_zw h0).symm
  | cons w l => rfl
theorem map_clean {s : PS} (ht : s.tame) : (s.mapA φ).clean ↔ s.clean := by
  unfold PS.clean PS.mapA
  constructor
  · exact fun h => ⟨h.1, ht h.1⟩
  · exact fun h => ⟨h.1, by show φ s.fa = 0; rw [h.2]; exact h0⟩
theorem map_fail {s : PS} (ht : s.tame) (e : Int) (w : Wx) : (s.mapA φ).fail e (w.mapA φ) = (s.fail e w).mapA φ := by
  have hz := map_zw h0
  unfold PS.fail
  by_cases hc : s.clean
  · have hc' := (map_clean h0 ht).2 hc
    rw [if_pos hc, if_pos hc, if_pos hc', if_pos hc']
    show PS.mk [zw] e (φ w.a) s.st true = PS.mk ([zw].map (Wx.mapA φ)) e (φ w.a) s.st true
    rw [List.map_cons, List.map_nil, hz]
  · have hc' : ¬ (s.mapA φ).clean := fun h => hc ((map_clean h0 ht).1 h)
    rw [if_neg hc, if_neg hc, if_neg hc', if_neg hc']
    show PS.mk [zw] s.fe (φ s.fa) s.st true = PS.mk ([zw].map (Wx.mapA φ)) s.fe (φ s.fa) s.st true
    rw [List.map_cons, List.map_nil, hz]
theorem map_failh {s q : PS} (ht : s.tame) (e : Int) : (s.mapA φ).fail e (q.mapA φ).head = (s.fail e q.head).mapA φ := by
  rw [map_head h0, map_fail h0 ht]
omit h0 in
theorem map_skip (s : PS) : (s.mapA φ).skip = s.skip.mapA φ := by
  unfold PS.skip
  by_cases h : 1 < s.left.length
  · rw [if_pos h, if_pos (by simpa [PS.mapA] using h)]
    simp [PS.mapA]
  · rw [if_neg h, if_neg (by simpa [PS.mapA] using h)]
theorem map_sees (s : PS) (l : List (List UInt8)) : (s.mapA φ).sees l = s.sees l := by
  unfold PS.sees
  rw [map_head h0]
  rfl
theorem map_takes (s : PS) (l : List (List UInt8)) : (s.mapA φ).takes l = ((s.takes l).1, (s.takes l).2.mapA φ) := by
  unfold PS.takes
  rw [map_sees h0]
  cases s.sees l with
  | none => rfl
  | some t => simp [map_skip]
theorem map_wants {s : PS} (ht : s.tame) (t : List UInt8) : (s.mapA φ).wants t = (s.wants t).mapA φ := by
  unfold PS.wants
  obtain ⟨o, r, hr⟩ : ∃ o r, s.takes [t] = (o, r) := ⟨_, _, rfl⟩
  have t1 := (takes_led' (b := false) hr).tame ht
  rw [map_takes h0, hr]
  cases o with
  | none => exact map_failh h0 t1 12
  | some u => rfl
theorem map_of {s : PS} (ht : s.tame) (k : Int) : (s.mapA φ).of k = ((s.of k).1.mapA φ, (s.of k).2.mapA φ) := by
  unfold PS.of
  rw [map_head h0]
  by_cases h : s.head.kind ≠ k
  · rw [if_pos h, if_pos (show (s.head.mapA φ).kind ≠ k from h)]
    rw [map_fail h0 ht]
    exact Prod.ext (map_zw h0).symm rfl
  · rw [if_neg h, if_neg (show ¬ (s.head.mapA φ).kind ≠ k from h), map_skip]

omit h0 in
theorem map_n (w : Wx) : (w.mapA φ).n = w.n := rfl
omit h0 in
theorem map_s (w : Wx) : (w.mapA φ).s = w.s := rfl

/-- Where words stand changes nothing. -/
def Alike {α : Type} (φ : Int → Int) (f : PS → α × PS) : Prop := ∀ s : PS, s.tame → f (s.mapA φ) = ((f s).1, (f s).2.mapA φ)

theorem chainP_map {part : PF} (hled : Leads false part) (hp : Alike φ part) (signs : List (List UInt8)) : ∀ (n : Nat) (x : Ex), Alike φ (chainP part signs n x)
  | 0, x => fun s ht => rfl
  | n + 1, x => fun s ht => by
    unfold chainP
    obtain ⟨o, r, hr⟩ : ∃ o r, s.takes signs = (o, r) := ⟨_, _, rfl⟩
    have t1 := (takes_led' (b := false) hr).tame ht
    rw [map_takes h0, hr]
    cases o with
    | none => rfl
    | some t =>
      dsimp only
      rw [hp r t1]
      exact chainP_map hled hp signs n _ _ ((hled r).tame t1)
theorem chain_map {part : PF} (hled : Leads false part) (hp : Alike φ part) (signs : List (List UInt8)) (n : Nat) : Alike φ (chain part signs n) := fun s ht => by
  unfold chain
  rw [hp s ht]
  exact chainP_map h0 hled hp signs n _ _ ((hled s).tame ht)
theorem innerP_map {ex : PF} (hled : Leads false ex) (he : Alike φ ex) : Alike φ (innerP ex) := fun s ht => by
  unfold innerP
  have t1 := (wants_led (b := false) s gLp).tame ht
  have t2 := (hled (s.wants gLp)).tame t1
  rw [map_wants h0 ht, he _ t1]
  dsimp only
  rw [map_wants h0 t2]
theorem partP_map {ex : PF} (hled : Leads false ex) (he : Alike φ ex) : Alike φ (partP ex) := fun s ht => by
  unfold partP
  rw [map_head h0, map_sees h0, map_skip, map_takes h0]
  by_cases k2 : s.head.kind = 2
  · rw [if_pos k2, if_pos (show (s.head.mapA φ).kind = 2 from k2)]; rfl
  rw [if_neg k2, if_neg (show ¬ (s.head.mapA φ).kind = 2 from k2)]
  by_cases k3 : s.head.kind = 3
  · rw [if_pos k3, if_pos (show (s.head.mapA φ).kind = 3 from k3)]; rfl
  rw [if_neg k3, if_neg (show ¬ (s.head.mapA φ).kind = 3 from k3)]
  by_cases k1 : s.head.kind = 1
  · rw [if_pos k1, if_pos (show (s.head.mapA φ).kind = 1 from k1)]; rfl
  rw [if_neg k1, if_neg (show ¬ (s.head.mapA φ).kind = 1 from k1)]
  by_cases hp : (s.sees [gLp]).isSome
  · rw [if_pos hp, if_pos hp]; exact innerP_map h0 hled he s ht
  rw [if_neg hp, if_neg hp]
  obtain ⟨o, r, hr⟩ : ∃ o r, s.takes [kTrue, kFalse, kExists, kSize, kRead] = (o, r) := ⟨_, _, rfl⟩
  have t1 := (takes_led' (b := false) hr).tame ht
  rw [hr]
  cases o with
  | none => dsimp only; rw [map_fail h0 t1]
  | some t =>
    dsimp only
    by_cases q1 : t = kTrue
    · rw [if_pos q1, if_pos q1]
    rw [if_neg q1, if_neg q1]
    by_cases q2 : t = kFalse
    · rw [if_pos q2, if_pos q2]
    rw [if_neg q2, if_neg q2, innerP_map h0 hled he r t1]
theorem sumP_map {ex : PF} (hled : Leads false ex) (he : Alike φ ex) : Alike φ (sumP ex) := chain_map h0 (partP_led hled) (partP_map h0 hled he) _ _
theorem cmpP_map {ex : PF} (hled : Leads false ex) (he : Alike φ ex) : Alike φ (cmpP ex) := chain_map h0 (sumP_led hled) (sumP_map h0 hled he) _ _
theorem notP_map {ex : PF} (hled : Leads false ex) (he : Alike φ ex) : ∀ n, Alike φ (notP ex n)
  | 0 => cmpP_map h0 hled he
  | n + 1 => fun s ht => by
    unfold notP
    obtain ⟨o, r, hr⟩ : ∃ o r, s.takes [kNot] = (o, r) := ⟨_, _, rfl⟩
    have t1 := (takes_led' (b := false) hr).tame ht
    rw [map_takes h0, hr]
    cases o with
    | none => exact cmpP_map h0 hled he r t1
    | some t => dsimp only; rw [notP_map hled he n r t1]
theorem bothP_map {ex : PF} (hled : Leads false ex) (he : Alike φ ex) (n : Nat) : Alike φ (bothP ex n) := chain_map h0 (notP_led hled n) (notP_map h0 hled he n) _ _
theorem exprP_map : ∀ n, Alike φ (exprP n)
  | 0 => fun s ht => rfl
  | n + 1 => chain_map h0 (bothP_led (exprP_led n) n) (bothP_map h0 (exprP_led n) (exprP_map n) n) _ _
theorem wholeP_map (t : List UInt8) (n : Nat) : Alike φ (wholeP t n) := fun s ht => by
  have t1 := (exprP_led (b := false) n s).tame ht
  unfold wholeP
  dsimp only
  rw [exprP_map h0 n s ht]
  obtain ⟨x, r, hx⟩ : ∃ x r, exprP n s = (x, r) := ⟨_, _, rfl⟩
  rw [hx] at t1 ⊢
  dsimp only at t1 ⊢
  rw [map_sees h0, map_head h0 r, map_head h0 s]
  by_cases hc : r.clean
  · have hc' := (map_clean h0 t1).2 hc
    rw [if_neg (show ¬ ¬ r.clean from fun h => h hc), if_neg (show ¬ ¬ (r.mapA φ).clean from fun h => h hc')]
    by_cases h2 : (r.sees [t]).isNone ∧ ¬ (t = [] ∧ r.head.kind = 0)
    · rw [if_pos h2, if_pos (show (r.sees [t]).isNone ∧ ¬ (t = [] ∧ (r.head.mapA φ).kind = 0) from h2), map_fail h0 t1]
    · rw [if_neg h2, if_neg (show ¬ ((r.sees [t]).isNone ∧ ¬ (t = [] ∧ (r.head.mapA φ).kind = 0)) from h2)]
      by_cases h3 : 8 < x.deep
      · rw [if_pos h3, if_pos h3, map_fail h0 t1]
      · rw [if_neg h3, if_neg h3]
  · have hc' : ¬ (r.mapA φ).clean := fun h => hc ((map_clean h0 t1).1 h)
    rw [if_pos hc, if_pos hc']
theorem exprsG_map (n : Nat) : ∀ (k : Nat) (l : List Ex), Alike φ (exprsG n k l)
  | 0, l => fun s ht => rfl
  | k + 1, l => fun s ht => by
    unfold exprsG
    dsimp only
    generalize (if k = 0 then gSe else gCo) = e
    have t1 := (wholeP_led (b := false) e n s).tame ht
    rw [wholeP_map h0 e n s ht]
    dsimp only
    rw [map_wants h0 t1]
    exact exprsG_map n k _ _ ((wants_led (b := false) _ e).tame t1)
theorem exprsP_map (n : Nat) (op : Int) : Alike φ (exprsP n op) := fun s ht => by
  unfold exprsP
  by_cases hz : nEx op = 0
  · rw [if_pos hz, if_pos hz, map_wants h0 ht]
  · rw [if_neg hz, if_neg hz]; exact exprsG_map h0 n _ _ s ht
theorem blockG_map {stm : PS → Sm × PS} (hled : Leads true stm) (hs : Alike φ stm) : ∀ (k : Nat) (l : List Sm), Alike φ (blockG stm k l)
  | 0, l => fun s ht => rfl
  | k + 1, l => fun s ht => by
    unfold blockG
    by_cases hc : s.clean
    · have hc' := (map_clean h0 ht).2 hc
      rw [if_neg (show ¬ ¬ s.clean from fun h => h hc), if_neg (show ¬ ¬ (s.mapA φ).clean from fun h => h hc')]
      obtain ⟨o, r, hr⟩ : ∃ o r, s.takes [gRb] = (o, r) := ⟨_, _, rfl⟩
      have t1 := (takes_led' (b := false) hr).tame ht
      rw [map_takes h0, hr]
      cases o with
      | some t => rfl
      | none =>
        dsimp only
        rw [hs r t1]
        exact blockG_map hled hs k _ _ ((hled r).tame t1)
    · have hc' : ¬ (s.mapA φ).clean := fun h => hc ((map_clean h0 ht).1 h)
      rw [if_pos hc, if_pos hc']
theorem blockP_map {stm : SF} {deep : Int} (hled : Leads true (stm deep)) (hs : Alike φ (stm deep)) (n : Nat) : Alike φ (blockP stm n deep) := fun s ht => by
  unfold blockP
  rw [map_wants h0 ht]
  exact blockG_map h0 hled hs n _ _ ((wants_led (b := false) s gLb).tame ht)
theorem txnG_map {stm : PS → Sm × PS} (hled : Leads true stm) (hs : Alike φ stm) : ∀ (k : Nat) (l : List Sm), Alike φ (txnG stm k l)
  | 0, l => fun s ht => by
    unfold txnG
    rw [map_sees h0, map_failh h0 ht]
    by_cases h : (s.sees [kWrite]).isSome
    · rw [if_pos h, if_pos h]
    · rw [if_neg h, if_neg h]
  | k + 1, l => fun s ht => by
    unfold txnG
    rw [map_sees h0]
    by_cases h : (s.sees [kWrite]).isSome
    · rw [if_pos h, if_pos h, hs s ht]
      exact txnG_map hled hs k _ _ ((hled s).tame ht)
    · rw [if_neg h, if_neg h]
theorem txnP_map {stm : SF} {deep : Int} (hled : Leads true (stm (deep + 1))) (hs : Alike φ (stm (deep + 1))) (n : Nat) : Alike φ (txnP stm n deep) := fun s ht => by
  unfold txnP
  dsimp only
  have t1 := (wholeP_led (b := false) gLb n s).tame ht
  have t2 := (wants_led (b := false) (wholeP gLb n s).2 gLb).tame t1
  have t3 := (txnG_led hled 8 [] ((wholeP gLb n s).2.wants gLb)).tame t2
  have t4 := (wants_led (b := false) (txnG (stm (deep + 1)) 8 [] ((wholeP gLb n s).2.wants gLb)).2 gRb).tame t3
  have t5 := (takes_led (b := false) ((txnG (stm (deep + 1)) 8 [] ((wholeP gLb n s).2.wants gLb)).2.wants gRb) [kCommit]).tame t4
  rw [wholeP_map h0 gLb n s ht]
  dsimp only
  rw [map_wants h0 t1, txnG_map h0 hled hs 8 [] _ t2]
  dsimp only
  rw [map_wants h0 t3, map_takes h0]
  dsimp only
  rw [map_wants h0 t5]
theorem loopP_map {stm : SF} {deep : Int} (hled : Leads true (stm (deep + 1))) (hs : Alike φ (stm (deep + 1))) (n : Nat) : Alike φ (loopP stm n deep) := fun s ht => by
  have t1 := (of_led (b := false) s 2).tame ht
  unfold loopP
  dsimp only
  rw [map_of h0 ht]
  dsimp only
  rw [map_n]
  by_cases h : 16 < (s.of 2).1.n
  · rw [if_pos h, if_pos h, map_fail h0 t1, blockP_map h0 hled hs n _ (fail_tame t1 (by omega) _)]
  · rw [if_neg h, if_neg h, blockP_map h0 hled hs n _ t1]
theorem choiceP_map {stm : SF} {deep : Int} (hled : Leads true (stm (deep + 1))) (hs : Alike φ (stm (deep + 1))) (n : Nat) : Alike φ (choiceP stm n deep) := fun s ht => by
  have t1 := (wholeP_led (b := false) gLb n s).tame ht
  have t2 := (blockP_led hled n (wholeP gLb n s).2).tame t1
  unfold choiceP
  dsimp only
  rw [wholeP_map h0 gLb n s ht]
  dsimp only
  rw [blockP_map h0 hled hs n _ t1]
  dsimp only
  obtain ⟨o, r, hr⟩ : ∃ o r, (blockP stm n (deep + 1) (wholeP gLb n s).2).2.takes [kElse] = (o, r) := ⟨_, _, rfl⟩
  have t3 := (takes_led' (b := false) hr).tame t2
  rw [map_takes h0, hr]
  cases o with
  | none => rfl
  | some t => dsimp only; rw [blockP_map h0 hled hs n _ t3]
theorem letP_map (n : Nat) : Alike φ (letP n) := fun s ht => by
  have t1 := (of_led (b := false) s 1).tame ht
  have t2 := (wants_led (b := false) (s.of 1).2 [61]).tame t1
  unfold letP
  dsimp only
  rw [map_of h0 ht]
  dsimp only
  rw [map_wants h0 t1, exprsP_map h0 n 12 _ t2, map_s]
theorem callP_map (n : Nat) : Alike φ (callP n) := fun s ht => by
  have t1 := (of_led (b := false) s 1).tame ht
  unfold callP
  dsimp only
  rw [map_of h0 ht]
  dsimp only
  rw [exprsP_map h0 n 15 _ t1, map_s]
theorem stmtB_map {stm : SF} (hled : ∀ d, Leads true (stm d)) (hs : ∀ d, Alike φ (stm d)) (n : Nat) (deep : Int) : Alike φ (stmtB stm n deep) := fun s ht => by
  have hsi : simpleP (s.mapA φ).head = simpleP s.head := by rw [map_head h0]; rfl
  unfold stmtB
  dsimp only
  rw [hsi, map_sees h0, map_failh h0 ht]
  by_cases hno : (simpleP s.head).isNone ∧ (s.sees [kLet, kCall, kIf, kRepeat, kTxn]).isNone
  · rw [if_pos hno, if_pos hno]
  rw [if_neg hno, if_neg hno]
  have e : PS.mk (s.mapA φ).left (s.mapA φ).fe (s.mapA φ).fa ((s.mapA φ).st + 1) (s.mapA φ).o = (PS.mk s.left s.fe s.fa (s.st + 1) s.o).mapA φ := rfl
  have ht' : (PS.mk s.left s.fe s.fa (s.st + 1) s.o).tame := ht
  simp only [e]
  rw [map_failh h0 ht', map_skip]
  have t1 := (Led.skip (b := false) (s0 := PS.mk s.left s.fe s.fa (s.st + 1) s.o) .refl).tame ht'
  have hst : (s.mapA φ).st = s.st := rfl
  rw [hst]
  by_cases hlim : 256 < s.st + 1 ∨ 8 < deep
  · rw [if_pos hlim, if_pos hlim]
  rw [if_neg hlim, if_neg hlim]
  generalize PS.skip ⟨s.left, s.fe, s.fa, s.st + 1, s.o⟩ = r at t1 ⊢
  cases s.sees [kLet, kCall, kIf, kRepeat, kTxn] with
  | none => dsimp only; rw [exprsP_map h0 n _ r t1]
  | some t =>
    dsimp only
    by_cases k1 : t = kLet
    · rw [if_pos k1, if_pos k1]; exact letP_map h0 n r t1
    rw [if_neg k1, if_neg k1]
    by_cases k2 : t = kCall
    · rw [if_pos k2, if_pos k2]; exact callP_map h0 n r t1
    rw [if_neg k2, if_neg k2]
    by_cases k3 : t = kIf
    · rw [if_pos k3, if_pos k3]; exact choiceP_map h0 (hled _) (hs _) n r t1
    rw [if_neg k3, if_neg k3]
    by_cases k4 : t = kRepeat
    · rw [if_pos k4, if_pos k4]; exact loopP_map h0 (hled _) (hs _) n r t1
    rw [if_neg k4, if_neg k4]
    exact txnP_map h0 (hled _) (hs _) n r t1
theorem stmtP_map : ∀ (n : Nat) (deep : Int), Alike φ (stmtP n deep)
  | 0, _ => fun s ht => rfl
  | n + 1, deep => stmtB_map h0 (stmtP_led n) (stmtP_map n) n deep
theorem namedP_map (key : List UInt8) (n : Nat) : Alike φ (namedP key n) := fun s ht => by
  unfold namedP
  obtain ⟨o, r, hr⟩ : ∃ o r, s.takes [key] = (o, r) := ⟨_, _, rfl⟩
  have t1 := (takes_led' (b := false) hr).tame ht
  rw [map_takes h0, hr]
  cases o with
  | none => rfl
  | some t =>
    dsimp only
    rw [map_failh h0 t1]
    by_cases h : n = 16
    · rw [if_pos h, if_pos h, map_of h0 (fail_tame t1 (by omega) _)]; rfl
    · rw [if_neg h, if_neg h, map_of h0 t1]; rfl
theorem procsG_map {len : Nat} : ∀ (k : Nat) (l : List (List UInt8 × List Sm)), Alike φ (procsG (stmtP len) len k l)
  | 0, l => fun s ht => rfl
  | k + 1, l => fun s ht => by
    have t1 := (namedP_led (b := false) kProc l.length s).tame ht
    unfold procsG
    rw [namedP_map h0 kProc l.length s ht]
    obtain ⟨o, r, ho⟩ : ∃ o r, namedP kProc l.length s = (o, r) := ⟨_, _, rfl⟩
    rw [ho] at t1 ⊢
    cases o with
    | none => rfl
    | some nm =>
      dsimp only at t1 ⊢
      rw [blockP_map h0 (stmtP_led len 1) (stmtP_map h0 len 1) len r t1]
      exact procsG_map k _ _ ((blockP_led (stmtP_led len 1) len r).tame t1)
theorem oraclesG_map {len : Nat} : ∀ (k : Nat) (l : List (List UInt8 × Ex)), Alike φ (oraclesG len k l)
  | 0, l => fun s ht => rfl
  | k + 1, l => fun s ht => by
    have t1 := (namedP_led (b := false) kOracle l.length s).tame ht
    unfold oraclesG
    rw [namedP_map h0 kOracle l.length s ht]
    obtain ⟨o, r, ho⟩ : ∃ o r, namedP kOracle l.length s = (o, r) := ⟨_, _, rfl⟩
    rw [ho] at t1 ⊢
    cases o with
    | none => rfl
    | some nm =>
      dsimp only at t1 ⊢
      have t2 := (wants_led (b := false) r gCl).tame t1
      have t3 := (wholeP_led (b := false) gSe len (r.wants gCl)).tame t2
      rw [map_wants h0 t1, wholeP_map h0 gSe len _ t2]
      dsimp only
      rw [map_wants h0 t3]
      exact oraclesG_map k _ _ ((wants_led (b := false) _ gSe).tame t3)
theorem recP_map (n : Nat) : Alike φ (recP n) := fun s ht => by
  unfold recP
  obtain ⟨o, r, ho⟩ : ∃ o r, s.takes [kRecover] = (o, r) := ⟨_, _, rfl⟩
  have t1 := (takes_led' (b := false) ho).tame ht
  rw [map_takes h0, ho]
  cases o with
  | none => rfl
  | some t => exact blockP_map h0 (stmtP_led n 1) (stmtP_map h0 n 1) n r t1
theorem programP_map (n : Nat) : Alike φ (programP n) := fun s ht => by
  have t1 := (procsG_led (len := n) (stmtP_led n) n [] s).tame ht
  have t2 := (wants_led (b := false) (procsG (stmtP n) n n [] s).2 kMain).tame t1
  have t3 := (blockP_led (stmtP_led n 1) n ((procsG (stmtP n) n n [] s).2.wants kMain)).tame t2
  have t4 := (recP_led n (blockP (stmtP n) n 1 ((procsG (stmtP n) n n [] s).2.wants kMain)).2).tame t3
  have t5 := (oraclesG_led (b := false) (len := n) n [] (recP n (blockP (stmtP n) n 1 ((procsG (stmtP n) n n [] s).2.wants kMain)).2).2).tame t4
  unfold programP
  dsimp only
  rw [procsG_map h0 n [] s ht]
  dsimp only
  rw [map_wants h0 t1, blockP_map h0 (stmtP_led n 1) (stmtP_map h0 n 1) n _ t2]
  dsimp only
  rw [recP_map h0 n _ t3]
  dsimp only
  rw [oraclesG_map h0 n [] _ t4]
  dsimp only
  rw [map_of h0 t5]
end

end Go.AM.Spec

namespace Go.AM.Spec
set_option linter.unusedVariables false
set_option linter.unusedSimpArgs false
set_option maxHeartbeats 2000000
set_option maxRecDepth 10000
open PS

/-- What stands behind a word. -/
def gapS (b : Bool) : List UInt8 := if b then [32, 9, 35, 32, 120, 10, 32] else [32]
def watW (x : Wx) (p : Int) : Wx := ⟨x.kind, x.s, x.n, p⟩

/-- The text, the words that are written, and where they stand. -/
def spc (b : Bool) : List Wx → List UInt8 → List Wx → List Int → List UInt8 × List Wx × List Int
  | [], cur, X, A => (cur, X, A)
  | x :: l, cur, X, A => match showS x.kind x.s x.n with
    | none => spc b l cur X A
    | some t => spc b l (cur ++ t ++ gapS b) (X ++ [x]) (A ++ [(cur.length : Int)])

theorem inv_nil : Inv [] [] := by
  intro X hX
  unfold wordsS
  rw [List.nil_append, if_neg (by simpa using hX)]
  simp
theorem inv_gap {cur : List UInt8} {acc : List (List V)} (hi : Inv cur acc) (Y : List UInt8) (hY : ∀ X, skipG false (Y ++ X) = skipG false X) : Inv (cur ++ Y) acc := by
  intro X hX
  simp only [List.length_append] at hX
  rw [List.append_assoc, hi (Y ++ X) (by simp; omega), hY]
  have e : (cur ++ Y).length + X.length = cur.length + (Y ++ X).length := by simp; omega
  rw [e]
theorem inv_gapS {cur t s : List UInt8} {acc : List (List V)} {k n : Int} (b : Bool) (hi : Inv cur acc) (hs : s.length ≤ 500) (h1 : -9223372036854775808 ≤ n) (h2 : n ≤ 9223372036854775807) (h : showS k s n = some t) :
    Inv (cur ++ t ++ gapS b) (acc ++ [[iw k, .str s, iw n, iw cur.length]]) := by
  have h3 := inv_step hi hs h1 h2 h
  cases b with
  | false => exact h3
  | true =>
    have h4 := inv_gap h3 [9, 35, 32, 120, 10, 32] (fun X => by
      have e : [9, 35, 32, 120, 10, 32] ++ X = 9 :: 35 :: ([32, 120] ++ 10 :: 32 :: X) := rfl
      rw [e, skip_blank 9 (by decide), skip_hash, skip_note [32, 120] _ (by decide), skip_blank 32 (by decide)])
    have e : cur ++ t ++ [32] ++ [9, 35, 32, 120, 10, 32] = cur ++ t ++ gapS true := by simp [gapS]
    rw [e] at h4
    exact h4

/-- The words of such a text. -/
def wsOf (X : List Wx) (A : List Int) (n : Nat) : List Wx := List.zipWith watW (X ++ [zw]) (A ++ [(n : Int)])

theorem zip_snoc {X : List Wx} {A : List Int} (h : X.length = A.length) (x : Wx) (p : Int) : List.zipWith watW (X ++ [x]) (A ++ [p]) = List.zipWith watW X A ++ [watW x p] := by
  rw [List.zipWith_append h]
  rfl
theorem wrows_snoc (l : List Wx) (w : Wx) : wrows (l ++ [w]) = wrows l ++ [w.cells] := by simp [wrows]

structure SpcOK (b : Bool) (l : List Wx) (cur : List UInt8) (X : List Wx) (A : List Int) : Prop where
  len : X.length = A.length
  inv : Inv cur (wrows (List.zipWith watW X A))
  asc : A.Pairwise (· < ·)
  low : ∀ p ∈ A, p < (cur.length : Int)
  first : (A ++ [(cur.length : Int)]).head? = some 0

theorem spc_ok (b : Bool) : ∀ (l : List Wx) (cur : List UInt8) (X : List Wx) (A : List Int), (∀ x ∈ l, x.fit ∧ x.s.length ≤ 100) → SpcOK b l cur X A →
    SpcOK b [] (spc b l cur X A).1 (spc b l cur X A).2.1 (spc b l cur X A).2.2 ∧ (spc b l cur X A).1.length ≤ cur.length + 309 * l.length ∧ (spc b l cur X A).2.2.length ≤ A.length + l.length
  | [], cur, X, A, hl, h => ⟨⟨h.len, h.inv, h.asc, h.low, h.first⟩, by simp [spc], by simp [spc]⟩
  | x :: l, cur, X, A, hl, h => by
    obtain ⟨hf, hs⟩ := hl x (by simp)
    have f1 := fit_i64 hf.2.1
    unfold spc
    cases hh : showS x.kind x.s x.n with
    | none =>
      obtain ⟨q1, q2, q3⟩ := spc_ok b l cur X A (fun y hy => hl y (by simp [hy])) ⟨h.len, h.inv, h.asc, h.low, h.first⟩
      exact ⟨q1, by simp only [List.length_cons]; omega, by simp only [List.length_cons]; omega⟩
    | some t =>
      have hg : (gapS b).length ≤ 7 := by cases b <;> simp [gapS]
      have hg1 : 1 ≤ (gapS b).length := by cases b <;> simp [gapS]
      have htl : t.length ≤ 302 := by
        unfold showS at hh
        split at hh
        · split at hh
          · cases hh
          · cases hh; have := text_length x.n; omega
        · split at hh
          · cases hh
          · split at hh
            · cases hh; have := quo_len x.s; omega
            · split at hh
              · cases hh; omega
              · cases hh
      have hlen : (cur ++ t ++ gapS b).length = cur.length + t.length + (gapS b).length := by simp only [List.length_append]
      have hn : SpcOK b l (cur ++ t ++ gapS b) (X ++ [x]) (A ++ [(cur.length : Int)]) := by
        refine ⟨by simp [h.len], ?_, ?_, ?_, ?_⟩
        · rw [zip_snoc h.len, wrows_snoc]
          have := inv_gapS (s := x.s) b h.inv (by omega) f1.1 f1.2 hh
          exact this
        · rw [List.pairwise_append]
          refine ⟨h.asc, List.pairwise_singleton _ _, fun p hp q hq => ?_⟩
          have : q = (cur.length : Int) := by simpa using hq
          rw [this]; exact h.low p hp
        · intro p hp
          rw [hlen]
          rcases List.mem_append.1 hp with hp | hp
          · have := h.low p hp; omega
          · have : p = (cur.length : Int) := by simpa using hp
            omega
        · have := h.first
          cases A with
          | nil => simpa using this
          | cons a A => simpa using this
      obtain ⟨q1, q2, q3⟩ := spc_ok b l _ _ _ (fun y hy => hl y (by simp [hy])) hn
      dsimp only
      refine ⟨q1, ?_, ?_⟩
      · rw [hlen] at q2; simp only [List.length_cons]; omega
      · simp only [List.length_append, List.length_cons, List.length_nil] at q3; simp only [List.length_cons]; omega

/-- Both ways write the same words. -/
theorem spc_same (b c : Bool) : ∀ (l : List Wx) (cur cur' : List UInt8) (X : List Wx) (A A' : List Int), A.length = A'.length → (spc b l cur X A).2.1 = (spc c l cur' X A').2.1 ∧ (spc b l cur X A).2.2.length = (spc c l cur' X A').2.2.length
  | [], cur, cur', X, A, A', h => ⟨rfl, h⟩
  | x :: l, cur, cur', X, A, A', h => by
    unfold spc
    cases showS x.kind x.s x.n with
    | none => exact spc_same b c l cur cur' X A A' h
    | some t => exact spc_same b c l _ _ _ _ _ (by simp [h])

theorem spc_words {cur : List UInt8} {X : List Wx} {A : List Int} {b : Bool} (h : SpcOK b [] cur X A) (hl : cur.length ≤ 4096) : wordsS cur = (wrows (wsOf X A cur.length), 0, 0) := by
  have h1 := h.inv [] (by simpa using hl)
  rw [List.append_nil] at h1
  rw [h1]
  simp only [List.length_nil, Nat.add_zero, skipG]
  rw [wordsG, if_pos rfl]
  unfold wsOf
  rw [zip_snoc h.len, wrows_snoc]
  rfl

theorem Wx.cells_inj {w v : Wx} (h : w.cells = v.cells) : w = v := by
  obtain ⟨a, b, c, d⟩ := w
  obtain ⟨a', b', c', d'⟩ := v
  simp [Wx.cells] at h
  obtain ⟨rfl, rfl, rfl, rfl⟩ := h
  rfl
theorem wrows_inj : ∀ {l m : List Wx}, wrows l = wrows m → l = m
  | [], [], _ => rfl
  | [], b :: m, h => by simp [wrows] at h
  | a :: l, [], h => by simp [wrows] at h
  | a :: l, b :: m, h => by
    simp only [wrows, List.map_cons, List.cons.injEq] at h
    rw [Wx.cells_inj h.1, wrows_inj (l := l) (m := m) h.2]

/-! Which place is which. -/
def look : List (Int × Int) → Int → Int
  | [], x => x
  | (a, b) :: r, x => if x = a then b else look r x

theorem look_map : ∀ (A B : List Int), A.Pairwise (· < ·) → A.length = B.length → A.map (look (A.zip B)) = B
  | [], [], _, _ => rfl
  | [], b :: B, _, h => by simp at h
  | a :: A, [], _, h => by simp at h
  | a :: A, b :: B, hp, h => by
    rw [List.pairwise_cons] at hp
    simp only [List.map_cons, List.zip_cons_cons, look]
    rw [if_pos trivial]
    have h1 := look_map A B hp.2 (by simpa using h)
    congr 1
    conv => rhs; rw [← h1]
    apply List.map_congr_left
    intro x hx
    have h2 := hp.1 x hx
    rw [if_neg (by omega)]

theorem wat_map (f : Int → Int) : ∀ (X : List Wx) (A : List Int), (List.zipWith watW X A).map (Wx.mapA f) = List.zipWith watW X (A.map f)
  | [], _ => by simp
  | x :: X, [] => by simp
  | x :: X, a :: A => by
    simp only [List.zipWith_cons_cons, List.map_cons, wat_map f X A]
    rfl

theorem zip_places {S : Int → Prop} : ∀ (X : List Wx) (A : List Int), (∀ p ∈ A, S p) → ∀ w ∈ List.zipWith watW X A, S w.a
  | [], _, _, w, hw => by simp at hw
  | x :: X, [], _, w, hw => by simp at hw
  | x :: X, a :: A, h, w, hw => by
    simp only [List.zipWith_cons_cons, List.mem_cons] at hw
    rcases hw with rfl | hw
    · exact h a (by simp)
    · exact zip_places X A (fun p hp => h p (by simp [hp])) w hw

/-! What writes such texts. -/
def irow (A : List Int) : List (List V) := A.map fun p => [iw p]

theorem spaced_loop (b : Bool) (l : List Wx) (hl : l.length ≤ 80) (hf : ∀ x ∈ l, x.fit ∧ x.s.length ≤ 100) :
    ∀ (n i : Nat) (cur : List UInt8) (X : List Wx) (A : List Int) (φ : Fr), n + i = l.length → cur.length ≤ 309 * i → A.length ≤ i → Fr.get φ 0 = .sl 4 (l.map Wx.cells) → Fr.get φ 1 = .bool b → Fr.get φ 6 = .str cur → Fr.get φ 7 = .own 1 (irow A) → Fr.get φ 8 = .int .i64 i →
      M (eval tbl noExt) [.code l_flotsamlaw17_spaced_0, .blk 0, .code r_flotsamlaw17_spaced_0, .fin [.t 4, .t 5] 0] φ [] = some (.tup [.str (spc b (l.drop i) cur X A).1, .sl 1 (irow ((spc b (l.drop i) cur X A).2.2 ++ [((spc b (l.drop i) cur X A).1.length : Int)]))], []) := by
  intro n
  induction n with
  | zero =>
    intro i cur X A φ hn hc hA h0 h1 h6 h7 h8
    have hlt : ¬ i < l.length := by omega
    have hlt' : ¬ (i : Int) < l.length := by omega
    have hb : 2 * (A.length + 1) * 8 ≤ 281474976710656 := by omega
    have hr : (irow A).length = A.length := by simp [irow]
    rw [List.drop_of_length_le (by omega)]
    simp only [spc]
    have e : irow (A ++ [(cur.length : Int)]) = irow A ++ [[iw cur.length]] := by simp [irow]
    rw [e]
    rw [l_flotsamlaw17_spaced_0, M_loop]
    simp [b_flotsamlaw17_spaced_0, h0, h1, h6, h7, h8, hlt, hlt']
    simp [r_flotsamlaw17_spaced_0, h6, h7, hb, hr]
  | succ n ih =>
    intro i cur X A φ hn hc hA h0 h1 h6 h7 h8
    have hlt : i < l.length := by omega
    have hlt' : (i : Int) < l.length := by omega
    have hw : IntKind.i64.wrap ((i : Int) + 1) = (i + 1 : Nat) := by rw [w64] <;> omega
    obtain ⟨hx, hxs⟩ := hf l[i] (List.getElem_mem hlt)
    have hr : (l.map Wx.cells)[i]'(by simpa using hlt) = l[i].cells := by simp
    have hd : l.drop i = l[i] :: l.drop (i + 1) := List.drop_eq_getElem_cons hlt
    rw [hd]
    obtain ⟨x, ex⟩ : ∃ x, x = l[i] := ⟨_, rfl⟩
    rw [← ex] at hx hxs hr ⊢
    have hcl : x.cells = [iw x.kind, .str x.s, iw x.n, iw x.a] := rfl
    rw [hcl] at hr
    have f1 := fit_i64 hx.2.1
    have hS := Show_eq x.kind x.n x.a x.s (by omega) f1.1 f1.2
    unfold spc
    rw [l_flotsamlaw17_spaced_0, M_loop, ← l_flotsamlaw17_spaced_0]
    cases hh : showS x.kind x.s x.n with
    | none =>
      rw [hh] at hS
      simp only [showV] at hS
      simp [b_flotsamlaw17_spaced_0, h0, h1, h6, h7, h8, hlt, hlt', hr, hS, hw, -List.getElem_map]
      refine ih (i + 1) cur X A _ (by omega) (by omega) (by omega) ?_ ?_ ?_ ?_ ?_ <;> simp [h0, h1, h6, h7]
    | some t =>
      rw [hh] at hS
      simp only [showV] at hS
      have htl : t.length ≤ 302 := by
        unfold showS at hh
        split at hh
        · split at hh
          · cases hh
          · cases hh; have := text_length x.n; omega
        · split at hh
          · cases hh
          · split at hh
            · cases hh; have := quo_len x.s; omega
            · split at hh
              · cases hh; omega
              · cases hh
      have hb : 2 * (A.length + 1) * 8 ≤ 281474976710656 := by omega
      have hrl : (irow A).length = A.length := by simp [irow]
      have b2 : cur.length + t.length < 4611686018427387904 := by omega
      have b3 : cur.length + t.length + 1 < 4611686018427387904 := by omega
      have b4 : cur.length + t.length + 1 + 6 < 4611686018427387904 := by omega
      have b5 : cur.length + t.length + 7 < 4611686018427387904 := by omega
      have b6 : cur.length + (t.length + 1) < 4611686018427387904 := by omega
      have b7 : cur.length + (t.length + 1 + 6) < 4611686018427387904 := by omega
      have b8 : cur.length + (t.length + 7) < 4611686018427387904 := by omega
      have b9 : cur.length + (t.length + 1) + 6 < 4611686018427387904 := by omega
      have e : irow (A ++ [(cur.length : Int)]) = irow A ++ [[iw cur.length]] := by simp [irow]
      dsimp only
      cases b with
      | false =>
        have hn' := ih (i + 1) (cur ++ (t ++ gapS false)) (X ++ [x]) (A ++ [(cur.length : Int)])
        rw [e] at hn'
        simp [b_flotsamlaw17_spaced_0, h0, h1, h6, h7, h8, hlt, hlt', hr, hS, hw, hb, hrl, b2, b3, b6, -List.getElem_map]
        refine hn' _ (by omega) (by simp [gapS]; omega) (by simp; omega) ?_ ?_ ?_ ?_ ?_ <;> simp [h0, h1, gapS]
      | true =>
        have hn' := ih (i + 1) (cur ++ (t ++ gapS true)) (X ++ [x]) (A ++ [(cur.length : Int)])
        rw [e] at hn'
        simp [b_flotsamlaw17_spaced_0, h0, h1, h6, h7, h8, hlt, hlt', hr, hS, hw, hb, hrl, b2, b3, b4, b5, b6, b7, b8, b9, -List.getElem_map]
        refine hn' _ (by omega) (by simp [gapS]; omega) (by simp; omega) ?_ ?_ ?_ ?_ ?_ <;> simp [h0, h1, gapS]

theorem spaced_eq (b : Bool) (l : List Wx) (hl : l.length ≤ 80) (hf : ∀ x ∈ l, x.fit ∧ x.s.length ≤ 100) :
    eval tbl noExt n_flotsamlaw17_spaced [.sl 4 (l.map Wx.cells), .bool b] [] = some (.tup [.str (spc b l [] [] []).1, .sl 1 (irow ((spc b l [] [] []).2.2 ++ [((spc b l [] [] []).1.length : Int)]))], []) := by
  have h := spaced_loop b l hl hf l.length 0 [] [] []
  rw [List.drop_zero] at h
  rw [eval_M rfl rfl t_flotsamlaw17_spaced rfl]
  simp [c_flotsamlaw17_spaced]
  refine h _ (by omega) (by simp) (by simp) ?_ ?_ ?_ ?_ ?_ <;> simp [irow]

end Go.AM.Spec

namespace Go.AM.Spec
set_option linter.unusedVariables false
set_option linter.unusedSimpArgs false
set_option maxHeartbeats 4000000
set_option maxRecDepth 10000
open PS

theorem knows17b : eval tbl noExt n_flotsamlaw17_knows [] [] = some (.bool true, []) := (eval_iff _ _ _ _ _ _).2 ⟨300, by kernel_rfl⟩

/-- The words' places, both ways, and what Program answers. -/
structure Both (l : List Wx) (s t : List UInt8) (A B : List Int) : Prop where
  len : A.length = B.length
  asc : A.Pairwise (· < ·)
  first : A.head? = some 0 ∧ B.head? = some 0
  count : A.length ≤ 200
  prog : ∃ (p : Pg) (e a : Int), eval tbl noExt n_parse_Program [.str s] [] = some (.tup [.agg p.cells, .agg [iw e, iw a]], []) ∧ eval tbl noExt n_parse_Program [.str t] [] = some (.tup [.agg p.cells, .agg [iw e, iw (look (A.zip B) a)]], []) ∧ a ∈ A ∧ (e = 0 → a = 0) ∧ p.size ≤ 20000

theorem spc_asc {b : Bool} {cur : List UInt8} {X : List Wx} {A : List Int} (h : SpcOK b [] cur X A) : (A ++ [(cur.length : Int)]).Pairwise (· < ·) := by
  rw [List.pairwise_append]
  exact ⟨h.asc, List.pairwise_singleton _ _, fun p hp q hq => by
    have : q = (cur.length : Int) := by simpa using hq
    rw [this]; exact h.low p hp⟩

theorem both_ok (l : List Wx) (hl : l.length ≤ 80) (hf : ∀ x ∈ l, x.fit ∧ x.s.length ≤ 100) (h1 : (spc false l [] [] []).1.length ≤ 4096) (h2 : (spc true l [] [] []).1.length ≤ 4096) :
    Both l (spc false l [] [] []).1 (spc true l [] [] []).1 ((spc false l [] [] []).2.2 ++ [((spc false l [] [] []).1.length : Int)]) ((spc true l [] [] []).2.2 ++ [((spc true l [] [] []).1.length : Int)]) := by
  have h0 : ∀ b, SpcOK b l [] [] [] := fun b => ⟨rfl, inv_nil, List.Pairwise.nil, by simp, rfl⟩
  obtain ⟨q1, _, q3⟩ := spc_ok false l [] [] [] hf (h0 false)
  obtain ⟨r1, _, r3⟩ := spc_ok true l [] [] [] hf (h0 true)
  obtain ⟨e1, e2⟩ := spc_same false true l [] [] [] [] [] rfl
  have w1 := spc_words q1 h1
  have w2 := spc_words r1 h2
  generalize spc false l [] [] [] = P at *
  generalize spc true l [] [] [] = Q at *
  obtain ⟨s, X, A⟩ := P
  obtain ⟨t, Y, B⟩ := Q
  dsimp only at *
  subst e1
  have hasc := spc_asc q1
  have hlen : (A ++ [(s.length : Int)]).length = (B ++ [(t.length : Int)]).length := by simp [e2]
  refine ⟨hlen, hasc, ⟨q1.first, r1.first⟩, by simp at q3 ⊢; omega, ?_⟩
  obtain ⟨f, hfd⟩ : ∃ f, f = look ((A ++ [(s.length : Int)]).zip (B ++ [(t.length : Int)])) := ⟨_, rfl⟩
  rw [← hfd]
  have hmap : (A ++ [(s.length : Int)]).map f = B ++ [(t.length : Int)] := by rw [hfd]; exact look_map _ _ hasc hlen
  have hf0 : f 0 = 0 := by
    have a0 := q1.first
    have b0 := r1.first
    rw [← hmap] at b0
    cases hA : A ++ [(s.length : Int)] with
    | nil => rw [hA] at a0; cases a0
    | cons a r =>
      rw [hA] at a0 b0
      simp only [List.head?_cons, List.map_cons, Option.some.injEq] at a0 b0
      rw [a0] at b0; exact b0
  have hws : (wsOf X A s.length).map (Wx.mapA f) = wsOf X B t.length := by
    unfold wsOf
    rw [wat_map, hmap]
  obtain ⟨l1, v1, g1, f1⟩ := words_fed s (by rw [w1])
  have hl1 : l1 = wsOf X A s.length := by
    rw [w1] at v1
    exact (wrows_inj (by injection v1)).symm
  subst hl1
  obtain ⟨l2, v2, g2, f2⟩ := words_fed t (by rw [w2])
  have hl2 : l2 = wsOf X B t.length := by
    rw [w2] at v2
    exact (wrows_inj (by injection v2)).symm
  subst hl2
  have E1 := Program_eq (s := s) (by omega) v1 g1
  have E2 := Program_eq (s := t) (by omega) v2 g2
  have hm : pst (wsOf X B t.length) = (pst (wsOf X A s.length)).mapA f := by
    rw [← hws]
    unfold pst PS.mapA
    rw [hf0]
  rw [hm, programP_map hf0 4097 _ (fun _ => rfl)] at E2
  have htame := (programP_led 4097 (pst (wsOf X A s.length))).tame (fun _ => rfl)
  have hmem0 : (0 : Int) ∈ A ++ [(s.length : Int)] := List.mem_of_head? q1.first
  have hpl := ((programP_led 4097 (pst (wsOf X A s.length))).where_ (S := fun p => p ∈ A ++ [(s.length : Int)]) hmem0 ⟨fun w hw => zip_places (S := fun p => p ∈ A ++ [(s.length : Int)]) _ _ (fun p hp => hp) w hw, hmem0⟩).2
  refine ⟨_, _, _, E1, ?_, hpl, htame, ?_⟩
  · have ha : ansP ((programP 4097 (pst (wsOf X A s.length))).1, (programP 4097 (pst (wsOf X A s.length))).2.mapA f) = ansP (programP 4097 (pst (wsOf X A s.length))) := by
      unfold ansP
      dsimp only
      by_cases hc : (programP 4097 (pst (wsOf X A s.length))).2.clean
      · rw [if_pos hc, if_pos ((map_clean hf0 htame).2 hc)]
      · rw [if_neg hc, if_neg (fun h => hc ((map_clean hf0 htame).1 h))]
    rw [ha] at E2
    exact E2
  · unfold ansP
    split
    · rename_i hc
      have := psz g1 g1.len hc
      have := g1.len
      omega
    · decide

theorem blanks_find (A B : List Int) (e a g : Int) (he : e ≠ 0) (hlen : A.length = B.length) (hc : A.length ≤ 200) (v8 v10 : Option (List V)) :
    ∀ (n i : Nat) (φ : Fr), n + i = A.length → a ∈ A.drop i → g = look ((A.drop i).zip (B.drop i)) a → Fr.get φ 5 = .sl 1 (irow A) → Fr.get φ 7 = .sl 1 (irow B) → Fr.get φ 9 = .ptr 1 0 → Fr.get φ 11 = .ptr 3 0 → Fr.get φ 12 = .int .i64 i →
      M (eval tbl noExt) [.code l_flotsamlaw17_ParseBlanks_1, .blk 2, .code r_flotsamlaw17_ParseBlanks_0, .fin [.t 2] 0] φ [v8, some [iw e, iw a], v10, some [iw e, iw g]] = some (.bool true, []) := by
  intro n
  induction n with
  | zero =>
    intro i φ hn hm
    rw [List.drop_of_length_le (by omega)] at hm
    cases hm
  | succ n ih =>
    intro i φ hn hm hk h5 h7 h9 h11 h12
    have hlt : i < A.length := by omega
    have hlt' : (i : Int) < A.length := by omega
    have hltB : i < B.length := by omega
    have hltB' : (i : Int) < B.length := by omega
    have hw : IntKind.i64.wrap ((i : Int) + 1) = (i + 1 : Nat) := by rw [w64] <;> omega
    have dA : A.drop i = A[i] :: A.drop (i + 1) := List.drop_eq_getElem_cons hlt
    have dB : B.drop i = B[i] :: B.drop (i + 1) := List.drop_eq_getElem_cons hltB
    rw [dA] at hm
    rw [dA, dB, List.zip_cons_cons, look] at hk
    have rA : (irow A)[i]? = some [iw A[i]] := by simp [irow, hlt]
    have rB : (irow B)[i]? = some [iw B[i]] := by simp [irow, hltB]
    have rA' : ∀ h : i < (irow A).length, (irow A)[i] = [iw A[i]] := fun h => by simp [irow]
    have rB' : ∀ h : i < (irow B).length, (irow B)[i] = [iw B[i]] := fun h => by simp [irow]
    have lA : (irow A).length = A.length := by simp [irow]
    have lB : (irow B).length = B.length := by simp [irow]
    generalize A[i] = x at *
    generalize B[i] = y at *
    rw [l_flotsamlaw17_ParseBlanks_1, M_loop, ← l_flotsamlaw17_ParseBlanks_1]
    by_cases hx : x = a
    · rw [if_pos hx.symm] at hk
      simp [b_flotsamlaw17_ParseBlanks_1, h5, h7, h9, h11, h12, lA, lB, hlt, hlt', hltB, hltB', rA', rB', he, hx, hk]
    · have hx' : ¬ a = x := fun h => hx h.symm
      rw [if_neg hx'] at hk
      simp [b_flotsamlaw17_ParseBlanks_1, h5, h7, h9, h11, h12, lA, lB, hlt, hlt', hltB, hltB', rA', rB', he, hx, hw]
      have hm' : a ∈ A.drop (i + 1) := by
        rcases List.mem_cons.1 hm with h | h
        · exact absurd h hx'
        · exact h
      refine ih (i + 1) _ (by omega) hm' hk ?_ ?_ ?_ ?_ ?_ <;> simp [h5, h7, h9, h11]

theorem blanks_tail (l : List Wx) (hl : l.length ≤ 80) (hf : ∀ x ∈ l, x.fit ∧ x.s.length ≤ 100) (φ : Fr) (g0 : Fr.get φ 0 = .sl 4 (l.map Wx.cells)) :
    M (eval tbl noExt) [.code r_flotsamlaw17_ParseBlanks_1, .fin [.t 2] 0] φ [] = some (.bool true, []) := by
  have s1 := spaced_eq false l hl hf
  have s2 := spaced_eq true l hl hf
  have hB := fun h1 h2 => both_ok l hl hf h1 h2
  generalize hA : (spc false l [] [] []).2.2 ++ [((spc false l [] [] []).1.length : Int)] = A at s1 hB
  generalize hB' : (spc true l [] [] []).2.2 ++ [((spc true l [] [] []).1.length : Int)] = B at s2 hB
  generalize (spc false l [] [] []).1 = s at s1 hB
  generalize (spc true l [] [] []).1 = t at s2 hB
  by_cases h1 : s.length ≤ 4096
  case neg =>
    have h1' : (4096 : Int) < s.length := by omega
    simp [r_flotsamlaw17_ParseBlanks_1, g0, s1, s2, h1', lt_flotsamlaw17_spaced]
  by_cases h2 : t.length ≤ 4096
  case neg =>
    have h1' : ¬ (4096 : Int) < s.length := by omega
    have h2' : (4096 : Int) < t.length := by omega
    simp [r_flotsamlaw17_ParseBlanks_1, g0, s1, s2, h1', h2', lt_flotsamlaw17_spaced]
  have h1' : ¬ (4096 : Int) < s.length := by omega
  have h2' : ¬ (4096 : Int) < t.length := by omega
  have b := hB h1 h2
  obtain ⟨p, e, a, p1, p2, p3, p4, p5⟩ := b.prog
  have hS := refSame_eq p p5
  have hpc : p.cells = [.sl 2 p.pcells, .sl 7 (Sm.rows p.main), .sl 7 (Sm.rows p.recover), .sl 5 p.ocells] := rfl
  rw [hpc] at p1 p2 hS
  have lA : (irow A).length = A.length := by simp [irow]
  by_cases he : e = 0
  · have ha := p4 he
    have hg : look (A.zip B) a = 0 := by
      rw [ha]
      obtain ⟨q1, q2⟩ := b.first
      cases A with
      | nil => cases q1
      | cons x A => cases B with
        | nil => cases q2
        | cons y B =>
          simp only [List.head?_cons, Option.some.injEq] at q1 q2
          rw [q1, q2]
          rfl
    rw [hg] at p2
    rw [ha, he] at p1
    rw [he] at p2
    have hpos : 0 < A.length := by
      cases A with
      | nil => have := b.first.1; cases this
      | cons x A => simp
    have hpos' : (0 : Int) < A.length := by omega
    simp [r_flotsamlaw17_ParseBlanks_1, g0, s1, s2, h1', h2', p1, p2, hS, lt_flotsamlaw17_spaced, lt_parse_Program, lt_flotsamref16_Same]
    rw [l_flotsamlaw17_ParseBlanks_1, M_loop]
    simp [b_flotsamlaw17_ParseBlanks_1, r_flotsamlaw17_ParseBlanks_0, lA, hpos, hpos']
  · have hfd := blanks_find A B e a (look (A.zip B) a) he b.len b.count
    simp [r_flotsamlaw17_ParseBlanks_1, g0, s1, s2, h1', h2', p1, p2, hS, lt_flotsamlaw17_spaced, lt_parse_Program, lt_flotsamref16_Same]
    refine hfd _ _ A.length 0 _ (by omega) (by simpa using p3) (by simp) ?_ ?_ ?_ ?_ ?_ <;> simp

theorem blanks_loop (l : List Wx) (hl : l.length ≤ 80) (hf : ∀ x ∈ l, x.fit) :
    ∀ (n i : Nat) (φ : Fr), n + i = l.length → (∀ x ∈ l.take i, x.s.length ≤ 100) → Fr.get φ 0 = .sl 4 (l.map Wx.cells) → Fr.get φ 3 = .int .i64 i →
      M (eval tbl noExt) [.code l_flotsamlaw17_ParseBlanks_0, .blk 0, .code r_flotsamlaw17_ParseBlanks_1, .fin [.t 2] 0] φ [] = some (.bool true, []) := by
  intro n
  induction n with
  | zero =>
    intro i φ hn ht h0 h3
    have hlt : ¬ i < l.length := by omega
    have hlt' : ¬ (i : Int) < l.length := by omega
    rw [List.take_of_length_le (by omega)] at ht
    rw [l_flotsamlaw17_ParseBlanks_0, M_loop]
    simp [b_flotsamlaw17_ParseBlanks_0, h0, h3, hlt, hlt']
    exact blanks_tail l hl (fun x hx => ⟨hf x hx, ht x hx⟩) _ (by simp [h0])
  | succ n ih =>
    intro i φ hn ht h0 h3
    have hlt : i < l.length := by omega
    have hlt' : (i : Int) < l.length := by omega
    have hw : IntKind.i64.wrap ((i : Int) + 1) = (i + 1 : Nat) := by rw [w64] <;> omega
    have hr : (l.map Wx.cells)[i]'(by simpa using hlt) = l[i].cells := by simp
    obtain ⟨x, ex⟩ : ∃ x, x = l[i] := ⟨_, rfl⟩
    rw [← ex] at hr
    have hc : x.cells = [iw x.kind, .str x.s, iw x.n, iw x.a] := rfl
    rw [hc] at hr
    rw [l_flotsamlaw17_ParseBlanks_0, M_loop, ← l_flotsamlaw17_ParseBlanks_0]
    by_cases hs : x.s.length ≤ 100
    · have hs' : ¬ (100 : Int) < x.s.length := by omega
      simp [b_flotsamlaw17_ParseBlanks_0, h0, h3, hlt, hlt', hr, hs', hw, -List.getElem_map]
      refine ih (i + 1) _ (by omega) ?_ ?_ ?_
      · intro y hy
        rw [List.take_add_one, List.mem_append] at hy
        rcases hy with hy | hy
        · exact ht y hy
        · rw [List.getElem?_eq_getElem hlt, ← ex] at hy
          have : y = x := by simpa using hy
          rw [this]; exact hs
      · simp [h0]
      · simp
    · have hs' : (100 : Int) < x.s.length := by omega
      simp [b_flotsamlaw17_ParseBlanks_0, h0, h3, hlt, hlt', hr, hs', -List.getElem_map]

theorem ParseBlanks_all (l : List Wx) (hf : ∀ x ∈ l, x.fit) : ∃ H', eval tbl noExt n_flotsamlaw17_ParseBlanks [.sl 4 (l.map Wx.cells)] [] = some (.bool true, H') := by
  refine ⟨[], ?_⟩
  have hk := knows17b
  rw [eval_M rfl rfl t_flotsamlaw17_ParseBlanks rfl]
  by_cases hl : 80 < l.length
  · have hl' : (80 : Int) < l.length := by omega
    simp [c_flotsamlaw17_ParseBlanks, hl', hk]
  · have hl' : ¬ (80 : Int) < l.length := by omega
    simp [c_flotsamlaw17_ParseBlanks, hl', hk]
    refine blanks_loop l (by omega) hf l.length 0 _ (by omega) (by simp) ?_ ?_ <;> simp

end Go.AM.Spec
