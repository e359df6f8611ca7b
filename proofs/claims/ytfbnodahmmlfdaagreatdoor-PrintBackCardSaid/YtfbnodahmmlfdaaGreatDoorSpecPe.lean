/-
 The parts of this proof that speak of the functions one by one.
-/
import Derived.Test.YtfbnodahmmlfdaaGreatDoorSpecPb
import Derived.Test.YtfbnodahmmlfdaaGreatDoorSpecTx
namespace Go.AM.Spec
set_option linter.unusedVariables false
set_option linter.unusedSimpArgs false
set_option maxRecDepth 10000
open PS
inductive Led (b : Bool) (s0 : PS) : PS → Prop
 | refl : Led b s0 s0
 | skip {r : PS} : Led b s0 r → Led b s0 r.skip
 | fail {r q : PS} {e : Int} : Led b s0 r → e ≠ 0 → Led b s0 q → Led b s0 (r.fail e q.head)
 | none {r : PS} {e : Int} : Led b s0 r → e ≠ 0 → Led b s0 (r.fail e zw)
 | step {r : PS} : b = true → Led b s0 r → r.st + 1 ≤ 256 → Led b s0 ⟨r.left, r.fe, r.fa, r.st + 1, r.o⟩
 | over {r q : PS} {e : Int} : b = true → Led b s0 r → e ≠ 0 → Led b s0 q → Led b s0 (PS.fail ⟨r.left, r.fe, r.fa, r.st + 1, r.o⟩ e q.head)
theorem Led.trans {b : Bool} {s r t : PS} (h : Led b s r) (k : Led b r t) : Led b s t := by
 induction k with
 | refl => exact h
 | skip _ ih => exact .skip ih
 | fail _ he _ ih1 ih2 => exact .fail ih1 he ih2
 | none _ he ih => exact .none ih he
 | step hb _ hs ih => exact .step hb ih hs
 | over hb _ he _ ih1 ih2 => exact .over hb ih1 he ih2
theorem Led.up {b : Bool} {s r : PS} (h : Led false s r) : Led b s r := by
 induction h with
 | refl => exact .refl
 | skip _ ih => exact .skip ih
 | fail _ he _ ih1 ih2 => exact .fail ih1 he ih2
 | none _ he ih => exact .none ih he
 | step hb _ hs ih => cases hb
 | over hb _ he _ ih1 ih2 => cases hb
theorem Led.st {s r : PS} (h : Led false s r) : r.st = s.st := by
 induction h with
 | refl => rfl
 | skip _ ih => rw [← ih]; unfold PS.skip; split <;> rfl
 | fail _ he _ ih1 ih2 => exact ih1
 | none _ he ih => exact ih
 | step hb _ hs ih => cases hb
 | over hb _ he _ ih1 ih2 => cases hb
theorem skip_clean {r : PS} (h : r.skip.clean) : r.clean := by
 unfold PS.skip at h
 split at h
 ·exact h
 ·exact h
theorem Led.most {b : Bool} {s r : PS} (h : Led b s r) (h0 : s.clean → s.st ≤ 256) : r.clean → r.st ≤ 256 := by
 induction h with
 | refl => exact h0
 | skip _ ih =>
  intro hc
  have := ih (skip_clean hc)
  unfold PS.skip
  split
  ·exact this
  ·exact this
 | fail _ he _ ih1 ih2 => exact fun hc => absurd hc (fail_dirty he _)
 | none _ he ih => exact fun hc => absurd hc (fail_dirty he _)
 | step hb _ hs ih => exact fun _ => hs
 | over hb _ he _ ih1 ih2 => exact fun hc => absurd hc (fail_dirty he _)
structure W1 (L : Int) (w : Wx) : Prop where
 num : w.kind = 2 → 0 ≤ w.n ∧ w.n ≤ 1000000000000
 text : w.kind = 3 → w.s.length ≤ 64
 name : w.kind = 1 → isName w.s = true
 sign : w.kind = 4 ∨ w.kind = 5 → w.s ≠ []
 short : w.kind = 5 → w.s.length ≤ 2
 place : 0 ≤ w.a ∧ w.a ≤ L
structure PS.fed (L : Int) (s : PS) : Prop where
 words : ∀ w ∈ s.left, W1 L w
 place : 0 ≤ s.fa ∧ s.fa ≤ L
 none : s.fe = 0 → s.fa = 0
theorem W1.zero {L : Int} (hL : 0 ≤ L) : W1 L zw := ⟨by simp [zw], by simp [zw], by simp [zw], by simp [zw], by simp [zw], by simp [zw]; exact hL⟩
theorem PS.fed.head {L : Int} (hL : 0 ≤ L) {s : PS} (h : s.fed L) : W1 L s.head := by
 unfold PS.head
 cases hl : s.left with
 | nil => exact W1.zero hL
 | cons w l => exact h.words w (by rw [hl]; simp)
theorem PS.fed.fail {L : Int} (hL : 0 ≤ L) {s : PS} (h : s.fed L) {w : Wx} (hw : W1 L w) {e : Int} (he : e ≠ 0) : (s.fail e w).fed L := by
 refine ⟨fun x hx => ?_, ?_, fun h0 => ?_⟩
 ·have : x = zw := by simpa [PS.fail] using hx
  rw [this]; exact W1.zero hL
 ·show 0 ≤ (if s.clean then w.a else s.fa) ∧ (if s.clean then w.a else s.fa) ≤ L
  split
  ·exact hw.place
  ·exact h.place
 ·have h0' : (if s.clean then e else s.fe) = 0 := h0
  show (if s.clean then w.a else s.fa) = 0
  by_cases hc : s.clean
  ·rw [if_pos hc] at h0'; exact absurd h0' he
  ·rw [if_neg hc] at h0' ⊢; exact h.none h0'
theorem Led.fed {b : Bool} {L : Int} (hL : 0 ≤ L) {s r : PS} (h : Led b s r) (h0 : s.fed L) : r.fed L := by
 induction h with
 | refl => exact h0
 | skip _ ih =>
  unfold PS.skip
  split
  ·exact ⟨fun w hw => ih.words w (List.mem_of_mem_tail hw), ih.place, ih.none⟩
  ·exact ih
 | fail _ he _ ih1 ih2 => exact ih1.fail hL (ih2.head hL) he
 | none _ he ih => exact ih.fail hL (W1.zero hL) he
 | step hb _ hs ih => exact ⟨ih.words, ih.place, ih.none⟩
 | @over r q e hb _ he _ ih1 ih2 =>
  have h1 : PS.fed L ⟨r.left, r.fe, r.fa, r.st + 1, r.o⟩ := ⟨ih1.words, ih1.place, ih1.none⟩
  exact h1.fail hL (ih2.head hL) he
def Leads {α : Type} (b : Bool) (f : PS → α × PS) : Prop := ∀ s : PS, Led b s (f s).2
section
variable {b : Bool}
end
set_option maxHeartbeats 2000000
theorem val_le : ∀ (l : List UInt8) (a v : Int), l.length ≤ 13 → 0 ≤ a → a < ((10 ^ (13 - l.length) : Nat) : Int) → val a l = some v → 0 ≤ v
 | [], a, v, hl, h, hb, e => by simp only [val] at e; cases e; exact h
 | c :: l, a, v, hl, h, hb, e => by
  simp only [List.length_cons] at hl hb
  have h10 : (10 : Nat) ^ (13 - l.length) = 10 * 10 ^ (13 - (l.length + 1)) := by
   have : 13 - l.length = (13 - (l.length + 1)) + 1 := by omega
   rw [this, Nat.pow_succ, Nat.mul_comm]
  have hp : (10 : Nat) ^ (13 - (l.length + 1)) ≤ 10 ^ 13 := Nat.pow_le_pow_right (by omega) (by omega)
  have e13 : (10 : Nat) ^ 13 = 10000000000000 := by decide
  rw [e13] at hp
  generalize (10 : Nat) ^ (13 - (l.length + 1)) = q at hb h10 hp
  simp only [val] at e
  split at e
  ·cases e
  ·rename_i hc
   have w1 : IntKind.i64.wrap (a * 10) = a * 10 := w64 (by omega) (by omega)
   have w2 : IntKind.i64.wrap (a * 10 + ((c.toNat : Int) - 48)) = a * 10 + ((c.toNat : Int) - 48) := w64 (by omega) (by omega)
   rw [w1, w2] at e
   exact val_le l _ v (by omega) (by omega) (by rw [h10]; omega) e
theorem read_le (s : List UInt8) : 0 ≤ (readR s).1 ∧ (readR s).1 ≤ 1000000000000 := by
 unfold readR
 split
 ·simp
 ·rename_i hs
  split
  ·simp
  ·rename_i v hv
   have hl : s.length ≤ 13 := Nat.le_of_not_lt fun h => hs (.inr (.inl h))
   have := val_le s 0 v hl (by omega) (by have := Nat.pow_pos (n := 13 - s.length) (show 0 < 10 by omega); omega) hv
   split
   ·simp
   ·exact ⟨this, by dsimp only; omega⟩
theorem oneS_w1 {l : List UInt8} {w : Wd} {n : Nat} (h : oneS l = .inl (w, n)) {L a : Int} (ha : 0 ≤ a ∧ a ≤ L) : W1 L ⟨w.kind, w.s, w.n, a⟩ := by
 unfold oneS at h
 split at h
 ·cases h
 ·rename_i c r
  split at h
  ·rename_i hc
   simp only at h
   split at h
   ·rename_i hk
    cases h
    refine ⟨by simp, by simp, by simp, fun _ => ?_, by simp, ha⟩
    have hi : isInner c = true := by unfold isInner; simp [hc]
    show (c :: r).takeWhile isInner ≠ []
    rw [List.takeWhile_cons_of_pos hi]; simp
   ·split at h
    ·rename_i hn
     cases h
     exact ⟨by simp, by simp, fun _ => hn, by simp, by simp, ha⟩
    ·cases h
  ·split at h
   ·simp only at h
    split at h
    ·cases h
     exact ⟨fun _ => read_le _, by simp, by simp, by simp, by simp, ha⟩
    ·cases h
   ·split at h
    ·split at h
     ·cases h
     ·split at h
      ·cases h
      ·split at h
       ·cases h
       ·rename_i hu
        cases h
        exact ⟨by simp, fun _ => by dsimp only; omega, by simp, by simp, by simp, ha⟩
    ·split at h
     ·cases h
      exact ⟨by simp, by simp, by simp, fun _ => by simp, fun _ => by simp, ha⟩
     ·split at h
      ·cases h
       exact ⟨by simp, by simp, by simp, fun _ => by simp, fun _ => by simp, ha⟩
      ·cases h
theorem wordsG_fed (total : Nat) : ∀ (f : Nat) (l : List UInt8) (acc : List (List V)), l.length < f → l.length ≤ total → (wordsG total f l acc).2.1 = 0 →
  ∃ m : List Wx, (wordsG total f l acc).1 = acc ++ wrows m ∧ m ≠ [] ∧ (∀ h, (m.getLast h).kind = 0) ∧ m.length ≤ f ∧ ∀ w ∈ m, W1 total w
 | 0, l, acc, h, _, _ => by omega
 | f + 1, l, acc, h, ht, h0 => by
  unfold wordsG at h0 ⊢
  by_cases hl : l = []
  ·rw [if_pos hl]
   refine ⟨[⟨0, [], 0, total⟩], rfl, by simp, fun _ => rfl, by simp, fun w hw => ?_⟩
   have : w = ⟨0, [], 0, total⟩ := by simpa using hw
   rw [this]
   exact ⟨by simp, by simp, by simp, by simp, by simp, by simp⟩
  ·rw [if_neg hl] at h0 ⊢
   obtain ⟨c, r, rfl⟩ : ∃ c r, l = c :: r := by
    cases l with
    | nil => exact absurd rfl hl
    | cons c r => exact ⟨c, r, rfl⟩
   cases ho : oneS (c :: r) with
   | inr e =>
    rw [ho] at h0
    exact absurd h0 (oneS_err c r e ho)
   | inl p =>
    obtain ⟨w, n⟩ := p
    obtain ⟨n1, n2⟩ := oneS_len c r w n ho
    rw [ho] at h0
    dsimp only at h0 ⊢
    have h1 := skipG_le false ((c :: r).drop n)
    rw [List.length_drop, List.length_cons] at h1
    rw [List.length_cons] at h ht
    obtain ⟨m, hm, hne, hlast, hml, hw⟩ := wordsG_fed total f (skipG false ((c :: r).drop n)) _ (by omega) (by omega) h0
    refine ⟨⟨w.kind, w.s, w.n, ((total - (c :: r).length : Nat) : Int)⟩ :: m, ?_, by simp, fun hh => ?_, by simp; omega, fun x hx => ?_⟩
    ·rw [hm, List.append_assoc]
     rfl
    ·rw [List.getLast_cons hne]
     exact hlast hne
    ·rcases List.mem_cons.1 hx with rfl | hx
     ·exact oneS_w1 ho (by omega)
     ·exact hw x hx
theorem wordsG_place (total : Nat) : ∀ (f : Nat) (l : List UInt8) (acc : List (List V)), ((wordsG total f l acc).2.1 = 0 → (wordsG total f l acc).2.2 = 0) ∧ 0 ≤ (wordsG total f l acc).2.2 ∧ (wordsG total f l acc).2.2 ≤ total
 | 0, l, acc => by unfold wordsG; simp
 | f + 1, l, acc => by
  unfold wordsG
  by_cases hl : l = []
  ·rw [if_pos hl]; simp
  ·rw [if_neg hl]
   obtain ⟨c, r, rfl⟩ : ∃ c r, l = c :: r := by
    cases l with
    | nil => exact absurd rfl hl
    | cons c r => exact ⟨c, r, rfl⟩
   cases ho : oneS (c :: r) with
   | inr e =>
    dsimp only
    exact ⟨fun h => absurd h (oneS_err c r e ho), by omega, by omega⟩
   | inl p =>
    obtain ⟨w, n⟩ := p
    exact wordsG_place total f _ _
theorem words_place (s : List UInt8) : ((wordsS s).2.1 = 0 → (wordsS s).2.2 = 0) ∧ 0 ≤ (wordsS s).2.2 ∧ (wordsS s).2.2 ≤ s.length := by
 unfold wordsS
 split
 ·simp
 ·exact wordsG_place _ _ _ _
def pst (l : List Wx) : PS := ⟨l, 0, 0, 0, false⟩
theorem words_fed (s : List UInt8) (h0 : (wordsS s).2.1 = 0) : ∃ l : List Wx, wordsS s = (wrows l, 0, 0) ∧ (pst l).good ∧ (pst l).fed s.length := by
 have hp := (words_place s).1 h0
 have hh : ∃ l : List Wx, (wordsS s).1 = wrows l ∧ (pst l).good ∧ (pst l).fed s.length := by
  unfold wordsS at h0 ⊢
  by_cases h : 4096 < s.length
  ·rw [if_pos h] at h0
   exact absurd (show (14 : Int) = 0 from h0) (by omega)
  ·rw [if_neg h] at h0 ⊢
   have h1 := skipG_le false s
   obtain ⟨m, hm, hne, hlast, hml, hw⟩ := wordsG_fed s.length (s.length + 1) (skipG false s) [] (by omega) h1 h0
   exact ⟨m, by rw [hm]; rfl, ⟨hne, hlast, fun hc => absurd ⟨rfl, rfl⟩ hc, by show m.length ≤ 4097; omega⟩, ⟨hw, by simp [pst], fun _ => rfl⟩⟩
 obtain ⟨l, h1, h2, h3⟩ := hh
 exact ⟨l, by rw [← h1]; exact Prod.ext rfl (Prod.ext h0 hp), h2, h3⟩
def zp : Pg := ⟨[], [], [], []⟩
def ansP (x : Pg × PS) : Pg := if x.2.clean then x.1 else zp
def ansE (x : Ex × PS) : Ex := if x.2.clean then x.1 else zx
theorem Program_bad {s : List UInt8} (hs : s.length ≤ 1000000) (h0 : (wordsS s).2.1 ≠ 0) : eval tbl noExt n_parse_Program [.str s] [] = some (.tup [.agg zp.cells, .agg [iw (wordsS s).2.1, iw (wordsS s).2.2]], []) := by
 have hW := fun H => Words_eq s hs H
 generalize wordsS s = x at hW h0 ⊢
 obtain ⟨rows, e, a⟩ := x
 simp only [wordsV] at hW h0 ⊢
 have hz : zp.cells = [.sl 2 [], .sl 7 [], .sl 7 [], .sl 5 []] := rfl
 rw [hz]
 rw [eval_M rfl rfl t_parse_Program rfl]
 simp [c_parse_Program, hW, h0, eqCells, V.apart, storeOf]
theorem Program_eq {s : List UInt8} (hs : s.length ≤ 1000000) {l : List Wx} (hw : wordsS s = (wrows l, 0, 0)) (hg : (pst l).good) :
  eval tbl noExt n_parse_Program [.str s] [] = some (.tup [.agg (ansP (programP 4097 (pst l))).cells, .agg [iw (programP 4097 (pst l)).2.fe, iw (programP 4097 (pst l)).2.fa]], []) := by
 have hW := fun H => Words_eq s hs H
 simp only [hw, wordsV] at hW
 have hP := program_eq 4097 (by omega) (HB := [some [V.own 2 [], .own 7 [], .own 7 [], .own 5 []], some [iw 0, iw 0], some [iw 0, iw 0], none]) (i := 3) (by simp) hg hg.len (by simp [pst]) (by have := hg.len; simp only [pst] at this ⊢; omega) []
 obtain ⟨x, r, hx⟩ : ∃ x r, programP 4097 (pst l) = (x, r) := ⟨_, _, rfl⟩
 rw [hx] at hP ⊢
 have hz : zp.cells = [.sl 2 [], .sl 7 [], .sl 7 [], .sl 5 []] := rfl
 have hxc : x.cells = [.sl 2 x.pcells, .sl 7 (Sm.rows x.main), .sl 7 (Sm.rows x.recover), .sl 5 x.ocells] := rfl
 simp [Hp, PS.cells, PS.lv, pst] at hP
 rw [hxc] at hP
 have hlv : (if r.o = true then V.own 4 (wrows r.left) else V.sl 4 (wrows r.left)) = r.lv := rfl
 rw [hlv] at hP
 unfold ansP
 rw [eval_M rfl rfl t_parse_Program rfl]
 by_cases hc : r.clean
 ·rw [if_pos hc]
  obtain ⟨c1, c2⟩ := hc
  rw [c1, c2] at hP
  simp [c_parse_Program, hW, eqCells, V.apart, storeOf, hP, hxc, c1, c2]
 ·rw [if_neg hc]
  have hc' : (decide (r.fe = 0) && decide (r.fa = 0)) = false := by
   rw [Bool.eq_false_iff]; intro h
   simp only [Bool.and_eq_true, decide_eq_true_eq] at h
   exact hc h
  simp [c_parse_Program, hW, eqCells, V.apart, storeOf, hP, hxc, hz, hc']
theorem Expr_bad {s : List UInt8} (hs : s.length ≤ 1000000) (h0 : (wordsS s).2.1 ≠ 0) : eval tbl noExt n_parse_Expr [.str s] [] = some (.tup [.agg zx.cells, .agg [iw (wordsS s).2.1, iw (wordsS s).2.2]], []) := by
 have hW := fun H => Words_eq s hs H
 generalize wordsS s = x at hW h0 ⊢
 obtain ⟨rows, e, a⟩ := x
 simp only [wordsV] at hW h0 ⊢
 have hz : zx.cells = [.int .i64 0, .int .i64 0, .str [], .sl 4 []] := rfl
 rw [hz]
 rw [eval_M rfl rfl t_parse_Expr rfl]
 simp [c_parse_Expr, hW, h0, eqCells, V.apart, storeOf]
theorem Expr_eq {s : List UInt8} (hs : s.length ≤ 1000000) {l : List Wx} (hw : wordsS s = (wrows l, 0, 0)) (hg : (pst l).good) :
  eval tbl noExt n_parse_Expr [.str s] [] = some (.tup [.agg (ansE (wholeP [] 4097 (pst l))).cells, .agg [iw (wholeP [] 4097 (pst l)).2.fe, iw (wholeP [] 4097 (pst l)).2.fa]], []) := by
 have hW := fun H => Words_eq s hs H
 simp only [hw, wordsV] at hW
 have hP := pwhole_eq [] 4097 (HB := [some [V.int .i64 0, .int .i64 0, .str [], .own 4 []], some [iw 0, iw 0], some [iw 0, iw 0], none]) (i := 3) (by simp) hg hg.len []
 obtain ⟨x, r, hx⟩ : ∃ x r, wholeP [] 4097 (pst l) = (x, r) := ⟨_, _, rfl⟩
 rw [hx] at hP ⊢
 have hz : zx.cells = [.int .i64 0, .int .i64 0, .str [], .sl 4 []] := rfl
 obtain ⟨xo, xn, xt, xl⟩ := x
 simp [Hp, PS.cells, PS.lv, pst, Ex.cells_mk] at hP
 have hlv : (if r.o = true then V.own 4 (wrows r.left) else V.sl 4 (wrows r.left)) = r.lv := rfl
 rw [hlv] at hP
 unfold ansE
 rw [eval_M rfl rfl t_parse_Expr rfl]
 by_cases hc : r.clean
 ·rw [if_pos hc]
  obtain ⟨c1, c2⟩ := hc
  rw [c1, c2] at hP
  simp [c_parse_Expr, hW, eqCells, V.apart, storeOf, hP, Ex.cells_mk, c1, c2]
 ·rw [if_neg hc]
  have hc' : (decide (r.fe = 0) && decide (r.fa = 0)) = false := by
   rw [Bool.eq_false_iff]; intro h
   simp only [Bool.and_eq_true, decide_eq_true_eq] at h
   exact hc h
  simp [c_parse_Expr, hW, eqCells, V.apart, storeOf, hP, Ex.cells_mk, hz, hc']
def Ex.fine (e : Ex) : Prop := ∀ d, e.deep ≤ d → e.ok d = true
section
variable {L : Int} (hL : 0 ≤ L)
include hL
omit hL
include hL
end
structure SFine (d : Nat) (s : PS) (x : Sm × PS) : Prop where
 ok : x.1.ok d = true
 size : x.1.size + 2 * x.2.left.length ≤ 2 * s.left.length
 cnt : (x.1.flat.length : Int) + s.st ≤ x.2.st
 write : (s.sees [kWrite]).isSome → x.1.op = 3
def FineS (L : Int) (m : Nat) (stm : SF) : Prop := ∀ (d : Nat) (s : PS), s.good → s.fed L → s.left.length ≤ m → (stm d s).2.clean → SFine d s (stm d s)
section
variable {L : Int} (hL : 0 ≤ L) {m : Nat} {stm : SF} (hto : ∀ d, Goes' (stm d)) (hled : ∀ d, Leads true (stm d)) (hS : FineS L m stm)
include hL hto hled hS
end
section
variable {L : Int} (hL : 0 ≤ L) {n : Nat}
include hL
end
end Go.AM.Spec
