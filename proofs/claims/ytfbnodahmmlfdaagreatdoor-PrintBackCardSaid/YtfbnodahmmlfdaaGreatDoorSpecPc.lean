/-
 The parts of this proof that speak of the functions one by one.
-/
import Derived.Test.YtfbnodahmmlfdaaGreatDoorSpecWd
import Derived.Test.YtfbnodahmmlfdaaGreatDoorSpecPa
import Derived.Test.YtfbnodahmmlfdaaGreatDoorSpecPb
namespace Go.AM.Spec
set_option linter.unusedVariables false
set_option linter.unusedSimpArgs false
set_option maxHeartbeats 2000000
set_option maxRecDepth 10000
def stop (X : List UInt8) : Prop := ∀ d, X.head? = some d → isInner d = false ∧ d ≠ 61
theorem stop_cons {c : UInt8} {X : List UInt8} (h1 : isInner c = false) (h2 : c ≠ 61) : stop (c :: X) := by
 intro d hd
 simp only [List.head?_cons, Option.some.injEq] at hd
 subst hd
 exact ⟨h1, h2⟩
theorem digit_inner (c : UInt8) (h : isInner c = false) : Go.AM.isDigit c = false := by
 have := all_u8 (p := fun c => isInner c || !(Go.AM.isDigit c)) (by decide +kernel) c
 simpa [h] using this
theorem tw_stop' {p : UInt8 → Bool} {l X : List UInt8} (h : l.all p = true) (hX : ∀ d, X.head? = some d → p d = false) : (l ++ X).takeWhile p = l := by
 cases X with
 | nil => rw [List.append_nil]; exact all_tw h
 | cons c r => exact tw_stop h c (hX c rfl) r
theorem shown2 {k n : Int} {s t : List UInt8} (hs : s.length ≤ 500) (h1 : -9223372036854775808 ≤ n) (h2 : n ≤ 9223372036854775807) (h : showS k s n = some t) :
  t ≠ [] ∧ (∀ r, skipG false (t ++ r) = t ++ r) ∧ ∀ r, (stop r ∨ k = 3 ∨ k = 5 ∧ s ≠ [61]) → oneS (t ++ r) = .inl (⟨k, s, n⟩, t.length) := by
 unfold showS at h
 split at h
 ·rename_i hk
  subst hk
  split at h
  ·cases h
  ·rename_i hc
   simp only [not_or, ne_eq, Decidable.not_not, Int.not_lt] at hc
   obtain ⟨rfl, h0, h9⟩ := hc
   cases h
   have ha : ∀ c ∈ text n, Go.AM.isDigit c = true := by
    unfold text
    rw [if_neg (by omega)]
    exact digs_all 19 _ [] (by simp)
   have hp : (text n).length > 0 := by
    unfold text
    rw [if_neg (by omega)]
    exact digs_pos 18 _ []
   have hr := read_text n h1 h2
   rw [if_pos ⟨h0, h9⟩] at hr
   generalize text n = t at *
   match t with
   | c :: q =>
    have hc := ha c (by simp)
    obtain ⟨f1, f2, f3⟩ := digit_facts c hc
    refine ⟨by simp, fun r => skip_id c _ f2 f3, fun r hr' => ?_⟩
    have hst : stop r := by
     rcases hr' with h | h | h
     ·exact h
     ·omega
     ·omega
    rw [List.cons_append, oneS_cons, f1, hc]
    simp only [Bool.false_eq_true, if_false, if_true, numberP]
    have := tw_stop' (p := Go.AM.isDigit) (l := c :: q) (X := r) (List.all_eq_true.2 ha) (fun d hd => digit_inner d (hst d hd).1)
    rw [List.cons_append] at this
    rw [this, hr]
    rfl
 ·split at h
  ·cases h
  ·rename_i hn
   have hn : n = 0 := by simpa using hn
   subst hn
   split at h
   ·rename_i hh
    obtain ⟨rfl, hl⟩ := hh
    cases h
    have hu := unq_quo s
    have hq : ∀ r, quoteEnd (s.flatMap signC ++ [34] ++ r) = some (s.flatMap signC).length := fun r => by
     have := quoteEnd_app (s.flatMap signC) r (flat_no34 s)
     rw [List.append_assoc]
     exact this
    unfold quo at hu ⊢
    refine ⟨by simp, fun r => skip_id 34 _ (by decide) (by decide), fun r _ => ?_⟩
    rw [List.cons_append, oneS_cons]
    have e1 : isLetter 34 = false := by decide
    have e2 : Go.AM.isDigit 34 = false := by decide
    rw [e1, e2]
    simp only [Bool.false_eq_true, if_false, if_true]
    unfold textP
    rw [hq]
    have ht : (s.flatMap signC ++ [34] ++ r).take (s.flatMap signC).length = s.flatMap signC := by
     rw [List.append_assoc, List.take_left]
    simp only [ht, hu]
    rw [if_neg (by omega)]
    simp
   ·split at h
    ·rename_i hh
     cases h
     rcases hh with ⟨rfl, hh⟩ | ⟨rfl, hh⟩ | ⟨rfl, hh⟩
     ·have hnm := hh
      unfold isName at hh
      simp only [Bool.and_eq_true, Bool.not_eq_true'] at hh
      obtain ⟨⟨⟨q1, q2⟩, q3⟩, q4⟩ := hh
      match s, q1 with
      | c :: q, q1 =>
       simp only at q1
       obtain ⟨f1, f2⟩ := letter_facts c q1
       refine ⟨by simp, fun r => skip_id c _ f1 f2, fun r hr' => ?_⟩
       have hst : stop r := by
        rcases hr' with h | h | h
        ·exact h
        ·omega
        ·omega
       rw [List.cons_append, oneS_cons, q1]
       have := tw_stop' (p := isInner) (l := c :: q) (X := r) q3 (fun d hd => (hst d hd).1)
       rw [List.cons_append] at this
       simp only [if_true, wordP, this, q4, hnm]
       simp
     ·have hm : s ∈ keyWords := by simpa [isKey] using hh
      have hs := key_shape s hm
      simp only [Bool.and_eq_true] at hs
      match s, hs with
      | c :: q, hs =>
       obtain ⟨q1, q3⟩ := hs
       simp only at q1
       obtain ⟨f1, f2⟩ := letter_facts c q1
       refine ⟨by simp, fun r => skip_id c _ f1 f2, fun r hr' => ?_⟩
       have hst : stop r := by
        rcases hr' with h | h | h
        ·exact h
        ·omega
        ·omega
       rw [List.cons_append, oneS_cons, q1]
       have := tw_stop' (p := isInner) (l := c :: q) (X := r) q3 (fun d hd => (hst d hd).1)
       rw [List.cons_append] at this
       simp only [if_true, wordP, this, hh]
     ·by_cases h61 : s = [61, 61]
      ·subst h61
       exact ⟨by simp, fun r => skip_id 61 _ (by decide) (by decide), fun r _ => rfl⟩
      ·have hm : ∃ c, s = [c] ∧ signsL.contains c = true := by
        have hall : ∀ w ∈ signList, w = [61, 61] ∨ (match w with | [c] => signsL.contains c | _ => false) = true := by decide +kernel
        rcases hall s (by simpa using hh) with e | e
        ·exact absurd e h61
        ·match s, e with
         | [c], e => exact ⟨c, rfl, e⟩
       obtain ⟨c, rfl, hc⟩ := hm
       obtain ⟨f1, f2, f3, f4, f5⟩ := sign_facts c hc
       refine ⟨by simp, fun r => skip_id c _ f4 f5, fun r hr' => ?_⟩
       have hne : ¬ (c = 61 ∧ r.head? = some 61) := by
        rintro ⟨e1, e2⟩
        rcases hr' with h | h | h
        ·exact (h 61 e2).2 rfl
        ·omega
        ·exact h.2 (by rw [e1])
       rw [List.singleton_append, oneS_cons, f1, f2]
       simp only [Bool.false_eq_true, if_false, f3]
       unfold signP
       rw [if_neg hne, hc]
       simp
    ·cases h
def wdOf (w : Wx) : Wd := ⟨w.kind, w.s, w.n⟩
def GG (total : Nat) (Y : List UInt8) (acc : List (List V)) : (List (List V)) × Int × Int := wordsG total (Y.length + 1) (skipG false Y) acc
def Sc (t : List UInt8) (ws : List Wd) : Prop := ∀ (total : Nat) (X : List UInt8) (acc : List (List V)), stop X → ∃ A : List Wx, A.map wdOf = ws ∧ GG total (t ++ X) acc = GG total X (acc ++ wrows A)
def Sf (t : List UInt8) (ws : List Wd) : Prop := ∀ (total : Nat) (X : List UInt8) (acc : List (List V)), ∃ A : List Wx, A.map wdOf = ws ∧ GG total (t ++ X) acc = GG total X (acc ++ wrows A)
theorem Sf.sc {t : List UInt8} {ws : List Wd} (h : Sf t ws) : Sc t ws := fun total X acc _ => h total X acc
theorem wrows_app (A B : List Wx) : wrows (A ++ B) = wrows A ++ wrows B := by simp [wrows]
theorem Sf.app {t u : List UInt8} {ws vs : List Wd} (h : Sf t ws) (k : Sf u vs) : Sf (t ++ u) (ws ++ vs) := by
 intro total X acc
 obtain ⟨A, h1, h2⟩ := h total (u ++ X) acc
 obtain ⟨B, k1, k2⟩ := k total X (acc ++ wrows A)
 exact ⟨A ++ B, by simp [h1, k1], by rw [List.append_assoc, h2, k2, wrows_app, List.append_assoc]⟩
theorem Sf.app' {t u : List UInt8} {ws vs : List Wd} (h : Sf t ws) (k : Sc u vs) : Sc (t ++ u) (ws ++ vs) := by
 intro total X acc hX
 obtain ⟨A, h1, h2⟩ := h total (u ++ X) acc
 obtain ⟨B, k1, k2⟩ := k total X (acc ++ wrows A) hX
 exact ⟨A ++ B, by simp [h1, k1], by rw [List.append_assoc, h2, k2, wrows_app, List.append_assoc]⟩
theorem Sc.app {t u : List UInt8} {ws vs : List Wd} (h : Sc t ws) (k : Sf u vs) (hu : ∀ X, stop (u ++ X)) : Sf (t ++ u) (ws ++ vs) := by
 intro total X acc
 obtain ⟨A, h1, h2⟩ := h total (u ++ X) acc (hu X)
 obtain ⟨B, k1, k2⟩ := k total X (acc ++ wrows A)
 exact ⟨A ++ B, by simp [h1, k1], by rw [List.append_assoc, h2, k2, wrows_app, List.append_assoc]⟩
theorem Sc.app' {t u : List UInt8} {ws vs : List Wd} (h : Sc t ws) (k : Sc u vs) (hu : ∀ X, stop X → stop (u ++ X)) : Sc (t ++ u) (ws ++ vs) := by
 intro total X acc hX
 obtain ⟨A, h1, h2⟩ := h total (u ++ X) acc (hu X hX)
 obtain ⟨B, k1, k2⟩ := k total X (acc ++ wrows A) hX
 exact ⟨A ++ B, by simp [h1, k1], by rw [List.append_assoc, h2, k2, wrows_app, List.append_assoc]⟩
theorem Sf.nil : Sf [] [] := fun total X acc => ⟨[], rfl, by simp [wrows]⟩
theorem Sf.blank {c : UInt8} (h : isBlank c = true) : Sf [c] [] := by
 intro total X acc
 refine ⟨[], rfl, ?_⟩
 unfold GG
 rw [List.singleton_append, skip_blank c h]
 simp only [wrows, List.map_nil, List.append_nil, List.length_cons]
 have hle := skipG_le false X
 exact wordsG_mono _ _ _ _ _ (by omega) (by omega)
theorem GG_step {t X : List UInt8} {k n : Int} {s : List UInt8} (q0 : t ≠ []) (q1 : skipG false (t ++ X) = t ++ X) (q2 : oneS (t ++ X) = .inl (⟨k, s, n⟩, t.length)) (total : Nat) (acc : List (List V)) :
  ∃ A : List Wx, A.map wdOf = [⟨k, s, n⟩] ∧ GG total (t ++ X) acc = GG total X (acc ++ wrows A) := by
 refine ⟨[⟨k, s, n, ((total - (t ++ X).length : Nat) : Int)⟩], rfl, ?_⟩
 have hp : 0 < t.length := List.length_pos_iff.2 q0
 unfold GG
 rw [q1]
 conv => lhs; rw [wordsG.eq_def]
 simp only
 rw [if_neg (by simp [q0]), q2]
 simp only
 have hd : (t ++ X).drop t.length = X := by simp
 rw [hd]
 have hle := skipG_le false X
 simp only [Wd.at, wrows, Wx.cells, List.map_cons, List.map_nil]
 exact wordsG_mono _ _ _ _ _ (by simp; omega) (by omega)
theorem Sc.word {k n : Int} {s t : List UInt8} (hs : s.length ≤ 500) (h1 : -9223372036854775808 ≤ n) (h2 : n ≤ 9223372036854775807) (h : showS k s n = some t) : Sc t [⟨k, s, n⟩] := by
 obtain ⟨q0, q1, q2⟩ := shown2 hs h1 h2 h
 exact fun total X acc hX => GG_step q0 (q1 X) (q2 X (.inl hX)) total acc
theorem Sf.word {k : Int} {s t : List UInt8} (hs : s.length ≤ 500) (hk : k = 3 ∨ k = 5 ∧ s ≠ [61]) (h : showS k s 0 = some t) : Sf t [⟨k, s, 0⟩] := by
 obtain ⟨q0, q1, q2⟩ := shown2 hs (by omega) (by omega) h
 exact fun total X acc => GG_step q0 (q1 X) (q2 X (.inr hk)) total acc
def kW (t : List UInt8) : Wd := ⟨4, t, 0⟩
def sW (t : List UInt8) : Wd := ⟨5, t, 0⟩
def opW (op : Int) : Wd := if op = 9 then sW [43] else if op = 10 then sW [45] else if op = 11 then sW [61, 61] else if op = 12 then sW [60] else if op = 13 then kW [97, 110, 100] else kW [111, 114]
def parW (b : Bool) (ws : List Wd) : List Wd := if b then sW [40] :: (ws ++ [sW [41]]) else ws
def exBodyW (op n : Int) (s : List UInt8) (p q : List Wd) : List Wd :=
 if op = 1 then [⟨2, [], n⟩] else if op = 2 then [⟨3, s, 0⟩] else if op = 4 then [⟨1, s, 0⟩] else if op = 3 then [kW (boolT n)]
 else if op = 8 then kW [110, 111, 116] :: p else if op = 5 ∨ op = 6 ∨ op = 7 then kW (callT op) :: sW [40] :: (p ++ [sW [41]]) else p ++ opW op :: q
mutual
def Ex.words : Ex → List Wd
 | .mk op n s x => exBodyW op n s ((Ex.wordss op 0 x).getD 0 []) ((Ex.wordss op 0 x).getD 1 [])
def Ex.wordss (op : Int) (i : Nat) : List Ex → List (List Wd)
 | [] => []
 | e :: l => parW (decide (strong e.op < leastOf op i)) e.words :: Ex.wordss op (i + 1) l
end
theorem sf_s {c : UInt8} (h1 : c ≠ 61) (h2 : signList.contains [c] = true) : Sf [c] [sW [c]] :=
 Sf.word (by simp) (.inr ⟨rfl, by simpa using h1⟩) (by unfold showS; rw [if_neg (by omega), if_neg (by simp), if_neg (by omega), if_pos (.inr (.inr ⟨rfl, h2⟩))])
theorem sc_par {t : List UInt8} {ws : List Wd} (h : Sc t ws) (b : Bool) : Sc (par b t) (parW b ws) := by
 cases b with
 | false => exact h
 | true =>
  have a : Sf [40] [sW [40]] := sf_s (by decide) (by decide +kernel)
  have c : Sf [41] [sW [41]] := sf_s (by decide) (by decide +kernel)
  exact (a.app (h.app c (fun X => stop_cons (by decide) (by decide)))).sc
theorem sf_sign (op : Int) : Sf (signT op) [opW op] := by
 have b : Sf [32] [] := Sf.blank (by decide)
 have hstop : ∀ X, stop ([32] ++ X) := fun X => stop_cons (by decide) (by decide)
 have key : ∀ {t : List UInt8} {w : Wd}, Sc t [w] → Sf ([32] ++ (t ++ [32])) [w] := fun h => by
  have := b.app (h.app b hstop)
  simpa using this
 unfold signT opW
 by_cases h9 : op = 9
 ·rw [if_pos h9, if_pos h9]; exact key (Sc.word (k := 5) (n := 0) (s := [43]) (t := [43]) (by simp) (by omega) (by omega) (by decide +kernel))
 rw [if_neg h9, if_neg h9]
 by_cases h10 : op = 10
 ·rw [if_pos h10, if_pos h10]; exact key (Sc.word (k := 5) (n := 0) (s := [45]) (t := [45]) (by simp) (by omega) (by omega) (by decide +kernel))
 rw [if_neg h10, if_neg h10]
 by_cases h11 : op = 11
 ·rw [if_pos h11, if_pos h11]; exact key (Sc.word (k := 5) (n := 0) (s := [61, 61]) (t := [61, 61]) (by simp) (by omega) (by omega) (by decide +kernel))
 rw [if_neg h11, if_neg h11]
 by_cases h12 : op = 12
 ·rw [if_pos h12, if_pos h12]; exact key (Sc.word (k := 5) (n := 0) (s := [60]) (t := [60]) (by simp) (by omega) (by omega) (by decide +kernel))
 rw [if_neg h12, if_neg h12]
 by_cases h13 : op = 13
 ·rw [if_pos h13, if_pos h13]; exact key (Sc.word (k := 4) (n := 0) (s := [97, 110, 100]) (t := [97, 110, 100]) (by simp) (by omega) (by omega) (by decide +kernel))
 rw [if_neg h13, if_neg h13]
 exact key (Sc.word (k := 4) (n := 0) (s := [111, 114]) (t := [111, 114]) (by simp) (by omega) (by omega) (by decide +kernel))
theorem stop_sign (op : Int) (X : List UInt8) : stop (signT op ++ X) := by
 unfold signT
 repeat' split
 all_goals exact stop_cons (by decide) (by decide)
theorem sc_key {t : List UInt8} (hl : t.length ≤ 500) (h : isKey t = true) : Sc t [kW t] := Sc.word (k := 4) (n := 0) (s := t) hl (by omega) (by omega) (by unfold showS; rw [if_neg (by omega), if_neg (by simp), if_neg (by omega), if_pos (.inr (.inl ⟨rfl, h⟩))])
theorem sc_name {t : List UInt8} (hl : t.length ≤ 500) (h : isName t = true) : Sc t [⟨1, t, 0⟩] := Sc.word (k := 1) (n := 0) (s := t) hl (by omega) (by omega) (by unfold showS; rw [if_neg (by omega), if_neg (by simp), if_neg (by omega), if_pos (.inl ⟨rfl, h⟩)])
theorem sc_num {n : Int} (h0 : 0 ≤ n) (h9 : n ≤ 1000000000000) : Sc (text n) [⟨2, [], n⟩] := Sc.word (k := 2) (n := n) (s := []) (by simp) (by omega) (by omega) (by unfold showS; rw [if_pos rfl, if_neg (by simp; omega)])
theorem sc_ex : ∀ (m : Nat) (e : Ex), e.size ≤ m → ∀ d, e.ok d = true → e.txt → Sc e.bare e.words := by
 intro m
 induction m with
 | zero => intro e h; cases e; simp only [Ex.size] at h; omega
 | succ m ih =>
  intro e h d hok ht
  obtain ⟨op, n, s, x⟩ := e
  simp only [Ex.size] at h
  have hok' := hok
  rw [Ex.ok] at hok'
  cases hpo : parts op with
  | none => rw [hpo] at hok'; cases hok'
  | some k =>
  rw [hpo] at hok'
  simp only [Bool.and_eq_true, decide_eq_true_eq] at hok'
  obtain ⟨⟨⟨hd, hxl⟩, hleaf⟩, hoks⟩ := hok'
  rw [Ex.oks_all] at hoks
  have hx : ∀ e ∈ x, Sc e.bare e.words := fun e he => ih e (by have := Ex.sizes_mem he; omega) (d - 1) (List.all_eq_true.1 hoks e he) (ex_txts_mem ht.2 e he)
  obtain ⟨o1, o2, hk⟩ := parts_some hpo
  simp only [Ex.bare, Ex.words, exBody, exBodyW]
  by_cases h1 : op = 1
  ·rw [if_pos h1, if_pos h1]
   subst h1
   simp [leafOk] at hleaf
   exact sc_num hleaf.1.1 hleaf.1.2
  rw [if_neg h1, if_neg h1]
  by_cases h2 : op = 2
  ·rw [if_pos h2, if_pos h2]
   subst h2
   simp [leafOk] at hleaf
   exact (Sf.word (k := 3) (s := s) (by omega) (.inl rfl) (by unfold showS; rw [if_neg (by omega), if_neg (by simp), if_pos ⟨rfl, hleaf.1⟩])).sc
  rw [if_neg h2, if_neg h2]
  by_cases h4 : op = 4
  ·rw [if_pos h4, if_pos h4]
   subst h4
   simp [leafOk] at hleaf
   exact sc_name (by have := ht.1; omega) hleaf.1
  rw [if_neg h4, if_neg h4]
  by_cases h3 : op = 3
  ·rw [if_pos h3, if_pos h3]
   unfold boolT
   split
   ·exact sc_key (by simp) (by decide +kernel)
   ·exact sc_key (by simp) (by decide +kernel)
  rw [if_neg h3, if_neg h3]
  rw [if_neg (by omega)] at hk
  by_cases h58 : op ≤ 8
  ·rw [if_pos h58] at hk
   subst hk
   match x, hxl with
   | [a], _ =>
   have ha := sc_par (hx a (by simp)) (decide (strong a.op < leastOf op 0))
   simp only [Ex.bares, Ex.wordss, List.getD_cons_zero]
   by_cases h8 : op = 8
   ·rw [if_pos h8, if_pos h8]
    have hn : Sc [110, 111, 116] [kW [110, 111, 116]] := sc_key (by simp) (by decide +kernel)
    exact (hn.app (Sf.blank (c := 32) (by decide)) (fun X => stop_cons (by decide) (by decide))).app' ha
   ·rw [if_neg h8, if_neg h8, if_pos (by omega), if_pos (by omega)]
    have hc : Sc (callT op) [kW (callT op)] := by
     unfold callT
     repeat' split
     all_goals exact sc_key (by simp) (by decide +kernel)
    have hl : Sf [40] [sW [40]] := sf_s (by decide) (by decide +kernel)
    have hr : Sf [41] [sW [41]] := sf_s (by decide) (by decide +kernel)
    have := (((hc.app hl (fun X => stop_cons (by decide) (by decide))).app' ha).app hr (fun X => stop_cons (by decide) (by decide))).sc
    simpa using this
  ·rw [if_neg h58] at hk
   subst hk
   match x, hxl with
   | [a, b], _ =>
   have ha := sc_par (hx a (by simp)) (decide (strong a.op < leastOf op 0))
   have hb := sc_par (hx b (by simp)) (decide (strong b.op < leastOf op 1))
   simp only [Ex.bares, Ex.wordss, List.getD_cons_zero, List.getD_cons_succ]
   rw [if_neg (by omega), if_neg (by omega), if_neg (by omega), if_neg (by omega)]
   have := ((ha.app (sf_sign op) (stop_sign op)).app' hb)
   simpa using this
def exsW : Bool → List Ex → List Wd
 | _, [] => []
 | first, e :: l => (if first then [] else [sW [44]]) ++ e.words ++ exsW false l
def midW (op : Int) (s : List UInt8) (n : Int) : List Wd := if op = 12 then [⟨1, s, 0⟩, sW [61]] else if op = 15 then [⟨1, s, 0⟩] else if op = 14 then [⟨2, [], n⟩] else []
mutual
def Sm.words : Sm → List Wd
 | .mk op s n e b c g => kW (keyT op) :: (midW op s n ++ exsW true e ++
  (if op = 13 ∨ op = 14 then (sW [123] :: (Sm.wordss b ++ [sW [125]])) ++ (if c.length = 0 then [] else kW [101, 108, 115, 101] :: (sW [123] :: (Sm.wordss c ++ [sW [125]])))
  else (if op = 16 then (sW [123] :: (Sm.wordss b ++ [sW [125]])) ++ (if g then [kW [99, 111, 109, 109, 105, 116]] else []) else []) ++ [sW [59]]))
def Sm.wordss : List Sm → List Wd
 | [] => []
 | e :: l => e.words ++ Sm.wordss l
end
def blkW (l : List Sm) : List Wd := sW [123] :: (Sm.wordss l ++ [sW [125]])
def procW (x : List UInt8 × List Sm) : List Wd := kW [112, 114, 111, 99] :: ⟨1, x.1, 0⟩ :: blkW x.2
def oraW (x : List UInt8 × Ex) : List Wd := kW [111, 114, 97, 99, 108, 101] :: ⟨1, x.1, 0⟩ :: sW [58] :: (x.2.words ++ [sW [59]])
def Pg.words (p : Pg) : List Wd :=
 p.procs.flatMap procW ++ (kW [109, 97, 105, 110] :: blkW p.main) ++ (if p.recover.length = 0 then [] else kW [114, 101, 99, 111, 118, 101, 114] :: blkW p.recover) ++ p.oracles.flatMap oraW
theorem stop_exs (b : Bool) (l : List Ex) : ∀ X, stop X → stop (exsT b l ++ X) := by
 intro X hX
 cases l with
 | nil => exact hX
 | cons e l =>
  cases b with
  | true => exact stop_cons (by decide) (by decide)
  | false => exact stop_cons (by decide) (by decide)
theorem sc_exs : ∀ (l : List Ex) (b : Bool) (d : Nat), Ex.oks l d = true → Ex.txts l → Sc (exsT b l) (exsW b l) := by
 intro l
 induction l with
 | nil => intro b d _ _; exact Sf.nil.sc
 | cons e l ih =>
  intro b d ho ht
  simp only [Ex.oks, Bool.and_eq_true] at ho
  have he := sc_ex e.size e (Nat.le_refl _) d ho.1 ht.1
  have hl := ih false d ho.2 ht.2
  have b32 : Sf [32] [] := Sf.blank (by decide)
  have hb : Sf (if b then [] else [44]) (if b then [] else [sW [44]]) := by
   cases b with
   | true => exact Sf.nil
   | false => exact sf_s (by decide) (by decide +kernel)
  have := ((hb.app b32).app' he).app' hl (stop_exs false l)
  simpa only [exsT, exsW, List.append_nil, List.append_assoc] using this
theorem keys_key : ((List.range 18).all fun j => isKey (keysT.getD j [])) = true := by kernel_rfl
theorem key_isKey {op : Int} (h1 : 1 ≤ op) (h2 : op ≤ 18) : isKey (keyT op) = true := by
 unfold keyT
 exact List.all_eq_true.1 keys_key (op - 1).toNat (List.mem_range.2 (by omega))
theorem sf_tabs : ∀ t, Sf (tabT t) []
 | 0 => Sf.nil
 | t + 1 => by
  have := (Sf.blank (c := 9) (by decide)).app (sf_tabs t)
  simpa [tabT, Go.Lib.repeatL] using this
theorem stop_mid (op : Int) (s : List UInt8) (n : Int) : ∀ X, stop X → stop (midT op s n ++ X) := by
 intro X hX
 unfold midT
 split
 ·exact stop_cons (by decide) (by decide)
 split
 ·exact stop_cons (by decide) (by decide)
 split
 ·exact stop_cons (by decide) (by decide)
 exact hX
theorem sc_mid {op : Int} {s : List UInt8} {n : Int} (hs : s.length ≤ 300) (hn : 0 ≤ n ∧ n ≤ 16) (hnm : op = 12 ∨ op = 15 → isName s = true) : Sc (midT op s n) (midW op s n) := by
 have b32 : Sf [32] [] := Sf.blank (by decide)
 unfold midT midW
 by_cases h12 : op = 12
 ·rw [if_pos h12, if_pos h12]
  have hN := sc_name (t := s) (by omega) (hnm (.inl h12))
  have hE : Sc [61] [sW [61]] := Sc.word (k := 5) (n := 0) (s := [61]) (t := [61]) (by simp) (by omega) (by omega) (by decide +kernel)
  have := b32.app' ((hN.app b32 (fun X => stop_cons (by decide) (by decide))).app' hE)
  simpa using this
 rw [if_neg h12, if_neg h12]
 by_cases h15 : op = 15
 ·rw [if_pos h15, if_pos h15]
  exact b32.app' (sc_name (t := s) (by omega) (hnm (.inr h15)))
 rw [if_neg h15, if_neg h15]
 by_cases h14 : op = 14
 ·rw [if_pos h14, if_pos h14]
  exact b32.app' (sc_num hn.1 (by omega))
 rw [if_neg h14, if_neg h14]
 exact Sf.nil.sc
theorem sf_blk {l : List Sm} {t : Nat} (h : Sf (Sm.texts l (t + 1)) (Sm.wordss l)) : Sf ([32, 123, 10] ++ Sm.texts l (t + 1) ++ tabT t ++ [125]) (sW [123] :: (Sm.wordss l ++ [sW [125]])) := by
 have b32 : Sf [32] [] := Sf.blank (by decide)
 have b10 : Sf [10] [] := Sf.blank (by decide)
 have o : Sf [123] [sW [123]] := sf_s (by decide) (by decide +kernel)
 have c : Sf [125] [sW [125]] := sf_s (by decide) (by decide +kernel)
 have := ((((b32.app o).app b10).app h).app (sf_tabs t)).app c
 simpa using this
mutual
theorem sf_sm : ∀ (e : Sm) (t : Nat), e.ok t = true → e.txt → Sf (e.text t) e.words
 | .mk op s n e b c g, t, hok, ht => by
  obtain ⟨h8, hsh, _, hob, hoc⟩ := Sm.ok_parts hok
  simp only [Sm.txt] at ht
  have hb := sf_blk (sf_sms b (t + 1) hob ht.2.2.1)
  have hc := sf_blk (sf_sms c (t + 1) hoc ht.2.2.2)
  unfold shapeOk at hsh
  cases hxs : exprs op with
  | none => rw [hxs] at hsh; cases hsh
  | some k =>
  rw [hxs] at hsh
  simp only [Bool.and_eq_true, decide_eq_true_eq] at hsh
  obtain ⟨hk, hnm, hn0, hn16, _, _, _, _, hoe⟩ := hsh
  obtain ⟨h1, h18⟩ := exprs_some hxs
  have hnm' : op = 12 ∨ op = 15 → isName s = true := fun h => by rw [if_pos h] at hnm; exact hnm
  have hK := sc_key (t := keyT op) (by have := key_length op; omega) (key_isKey h1 h18)
  have hM := sc_mid (op := op) ht.1 ⟨hn0, hn16⟩ hnm'
  have hE := sc_exs e true 8 hoe ht.2.1
  have hS : Sf [59] [sW [59]] := sf_s (by decide) (by decide +kernel)
  have b32 : Sf [32] [] := Sf.blank (by decide)
  have head := (hK.app' hM (stop_mid op s n)).app' hE (stop_exs true e)
  have fin : ∀ {u : List UInt8} {vs : List Wd}, Sf u vs → (∀ X, stop (u ++ X)) → Sf (keyT op ++ midT op s n ++ exsT true e ++ u) (kW (keyT op) :: (midW op s n ++ exsW true e ++ vs)) := fun h hs => by
   have := head.app h hs
   simpa using this
  simp only [Sm.text, Sm.words]
  by_cases h13 : op = 13 ∨ op = 14
  ·rw [if_pos h13, if_pos h13]
   by_cases hc0 : c.length = 0
   ·rw [if_pos hc0, if_pos hc0, List.append_nil, List.append_nil]
    exact fin hb (fun X => stop_cons (by decide) (by decide))
   ·rw [if_neg hc0, if_neg hc0]
    have hel : Sc [101, 108, 115, 101] [kW [101, 108, 115, 101]] := sc_key (by simp) (by decide +kernel)
    have := hb.app (b32.app (hel.app hc (fun X => stop_cons (by decide) (by decide))))
    exact fin (by simpa using this) (fun X => stop_cons (by decide) (by decide))
  ·rw [if_neg h13, if_neg h13]
   by_cases h16 : op = 16
   ·rw [if_pos h16, if_pos h16]
    cases g with
    | true =>
     have hco : Sc [99, 111, 109, 109, 105, 116] [kW [99, 111, 109, 109, 105, 116]] := sc_key (by simp) (by decide +kernel)
     have := hb.app (b32.app (hco.app hS (fun X => stop_cons (by decide) (by decide))))
     exact fin (by simpa using this) (fun X => stop_cons (by decide) (by decide))
    | false =>
     have := hb.app hS
     exact fin (by simpa using this) (fun X => stop_cons (by decide) (by decide))
   ·rw [if_neg h16, if_neg h16]
    exact fin hS (fun X => stop_cons (by decide) (by decide))
theorem sf_sms : ∀ (l : List Sm) (t : Nat), Sm.oks l t = true → Sm.txts l → Sf (Sm.texts l t) (Sm.wordss l)
 | [], _, _, _ => Sf.nil
 | e :: l, t, hok, ht => by
  simp only [Sm.oks, Bool.and_eq_true] at hok
  simp only [Sm.txts] at ht
  have h1 := sf_sm e t hok.1 ht.1
  have h2 := sf_sms l t hok.2 ht.2
  have b10 : Sf [10] [] := Sf.blank (by decide)
  have := (((sf_tabs t).app h1).app b10).app h2
  simpa [Sm.texts, Sm.wordss] using this
end
theorem sf_flat {α : Type} {f : α → List UInt8} {g : α → List Wd} : ∀ l : List α, (∀ x ∈ l, Sf (f x) (g x)) → Sf (l.flatMap f) (l.flatMap g)
 | [], _ => Sf.nil
 | x :: l, h => by
  have := (h x (by simp)).app (sf_flat l (fun y hy => h y (by simp [hy])))
  simpa using this
theorem sf_pg (p : Pg) (hok : p.ok = true) (ht : p.txt) : Sf p.text p.words := by
 have h := hok
 obtain ⟨t1, t2, t3, t4⟩ := ht
 simp only [Pg.ok, Bool.and_eq_true, decide_eq_true_eq, List.all_eq_true] at h
 obtain ⟨h1, h2, _, h3, h4, h5, h6⟩ := h
 have b32 : Sf [32] [] := Sf.blank (by decide)
 have b10 : Sf [10] [] := Sf.blank (by decide)
 have hP : Sf (p.procs.flatMap procT) (p.procs.flatMap procW) := sf_flat _ (fun x hx => by
  have hk : Sc [112, 114, 111, 99] [kW [112, 114, 111, 99]] := sc_key (by simp) (by decide +kernel)
  have hN := sc_name (t := x.1) (by have := (t1 x hx).1; omega) (h3 x hx).1
  have hb := sf_blk (t := 0) (sf_sms x.2 1 (h3 x hx).2 (t1 x hx).2)
  have := (((hk.app b32 (fun X => stop_cons (by decide) (by decide))).app' hN).app hb (fun X => stop_cons (by decide) (by decide))).app b10
  simpa [procT, procW, blkT, blkW] using this)
 have hM : Sf ([109, 97, 105, 110] ++ blkT p.main 0 ++ [10]) (kW [109, 97, 105, 110] :: blkW p.main) := by
  have hk : Sc [109, 97, 105, 110] [kW [109, 97, 105, 110]] := sc_key (by simp) (by decide +kernel)
  have := (hk.app (sf_blk (t := 0) (sf_sms p.main 1 h5 t2)) (fun X => stop_cons (by decide) (by decide))).app b10
  simpa [blkT, blkW] using this
 have hR : Sf (if p.recover.length = 0 then [] else [114, 101, 99, 111, 118, 101, 114] ++ blkT p.recover 0 ++ [10]) (if p.recover.length = 0 then [] else kW [114, 101, 99, 111, 118, 101, 114] :: blkW p.recover) := by
  split
  ·exact Sf.nil
  ·have hk : Sc [114, 101, 99, 111, 118, 101, 114] [kW [114, 101, 99, 111, 118, 101, 114]] := sc_key (by simp) (by decide +kernel)
   have := (hk.app (sf_blk (t := 0) (sf_sms p.recover 1 h6 t3)) (fun X => stop_cons (by decide) (by decide))).app b10
   simpa [blkT, blkW] using this
 have hO : Sf (p.oracles.flatMap oraT) (p.oracles.flatMap oraW) := sf_flat _ (fun x hx => by
  have hk : Sc [111, 114, 97, 99, 108, 101] [kW [111, 114, 97, 99, 108, 101]] := sc_key (by simp) (by decide +kernel)
  have hN := sc_name (t := x.1) (by have := (t4 x hx).1; omega) (h4 x hx).1
  have hc : Sf [58] [sW [58]] := sf_s (by decide) (by decide +kernel)
  have hs : Sf [59] [sW [59]] := sf_s (by decide) (by decide +kernel)
  have he := sc_ex x.2.size x.2 (Nat.le_refl _) 8 (h4 x hx).2 (t4 x hx).2
  have := (((((hk.app b32 (fun X => stop_cons (by decide) (by decide))).app' hN).app hc (fun X => stop_cons (by decide) (by decide))).app b32).app' he).app (hs.app b10) (fun X => stop_cons (by decide) (by decide))
  simpa [oraT, oraW] using this)
 have := ((hP.app hM).app hR).app hO
 simpa only [Pg.text, Pg.words] using this
def endW : Wd := ⟨0, [], 0⟩
theorem words_of_sf {t : List UInt8} {ws : List Wd} (h : Sc t ws) (hl : t.length ≤ 4096) : ∃ L : List Wx, wordsS t = (wrows L, 0, 0) ∧ L.map wdOf = ws ++ [endW] := by
 obtain ⟨A, h1, h2⟩ := h t.length [] [] (fun d hd => by cases hd)
 refine ⟨A ++ [⟨0, [], 0, (t.length : Int)⟩], ?_, by simp [h1, wdOf, endW]⟩
 unfold wordsS
 rw [if_neg (by omega)]
 rw [List.append_nil] at h2
 have h3 : wordsG t.length (t.length + 1) (skipG false t) [] = GG t.length t [] := rfl
 rw [h3, h2]
 unfold GG
 have : skipG false [] = [] := by simp [skipG]
 rw [this, wordsG, if_pos rfl]
 simp [wrows, Wx.cells]
open PS
structure At (s : PS) (ws : List Wd) : Prop where
 fe : s.fe = 0
 fa : s.fa = 0
 left : s.left.map wdOf = ws
theorem At.clean {s : PS} {ws : List Wd} (h : At s ws) : s.clean := ⟨h.fe, h.fa⟩
theorem At.cons {s : PS} {w : Wd} {R : List Wd} (h : At s (w :: R)) : ∃ x l, s.left = x :: l ∧ x.kind = w.kind ∧ x.s = w.s ∧ x.n = w.n ∧ l.map wdOf = R := by
 have hl := h.left
 cases hx : s.left with
 | nil => rw [hx] at hl; cases hl
 | cons x l =>
  rw [hx, List.map_cons, List.cons.injEq] at hl
  obtain ⟨h1, h2⟩ := hl
  subst h1
  exact ⟨x, l, rfl, rfl, rfl, rfl, h2⟩
theorem At.head {s : PS} {w : Wd} {R : List Wd} (h : At s (w :: R)) : s.head.kind = w.kind ∧ s.head.s = w.s ∧ s.head.n = w.n := by
 obtain ⟨x, l, h1, h2, h3, h4, _⟩ := h.cons
 unfold PS.head
 rw [h1]
 exact ⟨h2, h3, h4⟩
theorem At.skip {s : PS} {w : Wd} {R : List Wd} (h : At s (w :: R)) (hR : R ≠ []) : At s.skip R ∧ s.skip.st = s.st := by
 obtain ⟨x, l, h1, _, _, _, h5⟩ := h.cons
 have hl : l ≠ [] := by
  rintro rfl
  exact hR (by rw [← h5]; rfl)
 have hlen : 1 < s.left.length := by
  rw [h1]
  cases l with
  | nil => exact absurd rfl hl
  | cons y l => simp
 unfold PS.skip
 rw [if_pos hlen]
 exact ⟨⟨h.fe, h.fa, by rw [h1]; exact h5⟩, rfl⟩
theorem At.sees {s : PS} {w : Wd} {R : List Wd} (h : At s (w :: R)) {l : List (List UInt8)} (hk : w.kind = 4 ∨ w.kind = 5) (hm : w.s ∈ l) : s.sees l = some w.s := by
 obtain ⟨h1, h2, _⟩ := h.head
 unfold PS.sees
 rw [h1, h2, if_pos ⟨hk, hm⟩]
theorem At.sees_no {s : PS} {w : Wd} {R : List Wd} (h : At s (w :: R)) {l : List (List UInt8)} (hn : ¬ ((w.kind = 4 ∨ w.kind = 5) ∧ w.s ∈ l)) : s.sees l = none := by
 obtain ⟨h1, h2, _⟩ := h.head
 unfold PS.sees
 rw [h1, h2, if_neg hn]
theorem At.takes {s : PS} {w : Wd} {R : List Wd} (h : At s (w :: R)) {l : List (List UInt8)} (hk : w.kind = 4 ∨ w.kind = 5) (hm : w.s ∈ l) : s.takes l = (some w.s, s.skip) := by
 unfold PS.takes
 rw [h.sees hk hm]
theorem At.takes_no {s : PS} {w : Wd} {R : List Wd} (h : At s (w :: R)) {l : List (List UInt8)} (hn : ¬ ((w.kind = 4 ∨ w.kind = 5) ∧ w.s ∈ l)) : s.takes l = (none, s) := by
 unfold PS.takes
 rw [h.sees_no hn]
theorem At.wants {s : PS} {w : Wd} {R : List Wd} (h : At s (w :: R)) (hk : w.kind = 4 ∨ w.kind = 5) (hR : R ≠ []) : At (s.wants w.s) R ∧ (s.wants w.s).st = s.st := by
 unfold PS.wants
 rw [h.takes hk (by simp)]
 exact h.skip hR
theorem At.of {s : PS} {w : Wd} {R : List Wd} (h : At s (w :: R)) (hR : R ≠ []) : (s.of w.kind).1.s = w.s ∧ (s.of w.kind).1.n = w.n ∧ At (s.of w.kind).2 R ∧ (s.of w.kind).2.st = s.st := by
 obtain ⟨h1, h2, h3⟩ := h.head
 unfold PS.of
 rw [if_neg (by simp [h1])]
 exact ⟨h2, h3, h.skip hR⟩
def Ps (f : PF) (e : Ex) (ws R : List Wd) : Prop := ∀ s, At s (ws ++ R) → ∃ s', f s = (e, s') ∧ At s' R ∧ s'.st = s.st
def sgn : Nat → List (List UInt8)
 | 0 => [kOr]
 | 1 => [kAnd]
 | 3 => [gEE, gLt]
 | 4 => [gPl, gMi]
 | _ => []
def fol (k : Nat) (R : List Wd) : Prop := ∀ j, k ≤ j → ∀ w, R.head? = some w → ¬ ((w.kind = 4 ∨ w.kind = 5) ∧ w.s ∈ sgn j)
theorem fol.mono {k j : Nat} {R : List Wd} (h : fol k R) (hk : k ≤ j) : fol j R := fun i hi => h i (Nat.le_trans hk hi)
def PL (ex : PF) (n : Nat) : Nat → PF
 | 0 => orP ex n
 | 1 => bothP ex n
 | 2 => notP ex n
 | 3 => cmpP ex
 | 4 => sumP ex
 | _ => partP ex
def noNot (ws : List Wd) : Prop := ∀ w, ws.head? = some w → ¬ ((w.kind = 4 ∨ w.kind = 5) ∧ w.s ∈ [kNot])
theorem lift_chain {part : PF} {signs : List (List UInt8)} {N : Nat} {e : Ex} {ws R : List Wd} (h : Ps part e ws R) (hR : R ≠ []) (hn : ∀ w, R.head? = some w → ¬ ((w.kind = 4 ∨ w.kind = 5) ∧ w.s ∈ signs)) : Ps (chain part signs N) e ws R := by
 intro s hs
 obtain ⟨s', h1, h2, h3⟩ := h s hs
 refine ⟨s', ?_, h2, h3⟩
 unfold chain
 rw [h1]
 cases N with
 | zero => rfl
 | succ N =>
  cases R with
  | nil => exact absurd rfl hR
  | cons w R =>
   unfold chainP
   rw [h2.takes_no (hn w rfl)]
theorem lift1 {ex : PF} {n k : Nat} {e : Ex} {ws R : List Wd} (hk : k < 5) (h : Ps (PL ex n (k + 1)) e ws R) (hR : R ≠ []) (hws : ws ≠ []) (hf : fol k R) (hnot : k = 2 → noNot ws) : Ps (PL ex n k) e ws R := by
 match k, hk with
 | 0, _ => exact lift_chain h hR (hf 0 (Nat.le_refl _))
 | 1, _ => exact lift_chain h hR (hf 1 (Nat.le_refl _))
 | 2, _ =>
  intro s hs
  obtain ⟨s', h1, h2, h3⟩ := h s hs
  refine ⟨s', ?_, h2, h3⟩
  show notP ex n s = _
  cases n with
  | zero => exact h1
  | succ n =>
   cases ws with
   | nil => exact absurd rfl hws
   | cons w ws =>
    unfold notP
    rw [List.cons_append] at hs
    rw [hs.takes_no (hnot rfl w rfl)]
    exact h1
 | 3, _ => exact lift_chain h hR (hf 3 (Nat.le_refl _))
 | 4, _ => exact lift_chain h hR (hf 4 (Nat.le_refl _))
theorem lift {ex : PF} {n : Nat} {e : Ex} {ws R : List Wd} (hR : R ≠ []) (hws : ws ≠ []) : ∀ (i k : Nat), k + i ≤ 5 → Ps (PL ex n (k + i)) e ws R → fol k R → (k ≤ 2 → 2 < k + i → noNot ws) → Ps (PL ex n k) e ws R
 | 0, k, _, h, _, _ => h
 | i + 1, k, hk, h, hf, hn => by
  refine lift1 (by omega) (lift hR hws i (k + 1) (by omega) (by rwa [show k + 1 + i = k + (i + 1) by omega]) (hf.mono (by omega)) (fun h1 h2 => hn (by omega) (by omega))) hR hws hf (fun h2 => hn (by omega) (by omega))
def pw (k : Nat) (e : Ex) : List Wd := parW (decide (strong e.op < k)) e.words
theorem words_ne {e : Ex} {d : Nat} (h : e.ok d = true) : e.words ≠ [] := by
 obtain ⟨op, n, s, x⟩ := e
 simp only [Ex.words, exBodyW]
 repeat' split
 all_goals simp
theorem ex_shape {op n : Int} {s : List UInt8} {x : List Ex} {d : Nat} (h : (Ex.mk op n s x).ok d = true) :
  1 ≤ op ∧ op ≤ 14 ∧ leafOk op n s = true ∧ (op ≤ 4 → x = []) ∧ (5 ≤ op → op ≤ 8 → ∃ a, x = [a] ∧ a.ok (d - 1) = true) ∧ (9 ≤ op → ∃ a b, x = [a, b] ∧ a.ok (d - 1) = true ∧ b.ok (d - 1) = true) := by
 rw [Ex.ok] at h
 cases hpo : parts op with
 | none => rw [hpo] at h; cases h
 | some k =>
 rw [hpo] at h
 simp only [Bool.and_eq_true, decide_eq_true_eq] at h
 obtain ⟨⟨⟨hd, hxl⟩, hleaf⟩, hoks⟩ := h
 rw [Ex.oks_all] at hoks
 obtain ⟨o1, o2, hk⟩ := parts_some hpo
 refine ⟨o1, o2, hleaf, fun h4 => ?_, fun h5 h8 => ?_, fun h9 => ?_⟩
 ·rw [if_pos h4] at hk
  rw [hk] at hxl
  exact List.eq_nil_of_length_eq_zero hxl
 ·rw [if_neg (by omega), if_pos h8] at hk
  rw [hk] at hxl
  match x, hxl with
  | [a], _ => exact ⟨a, rfl, List.all_eq_true.1 hoks a (by simp)⟩
 ·rw [if_neg (by omega), if_neg (by omega)] at hk
  rw [hk] at hxl
  match x, hxl with
  | [a, b], _ => exact ⟨a, b, rfl, List.all_eq_true.1 hoks a (by simp), List.all_eq_true.1 hoks b (by simp)⟩
theorem strong_vals {op : Int} (h1 : 1 ≤ op) (h2 : op ≤ 14) : (op ≤ 7 → strong op = 5) ∧ (op = 8 → strong op = 2) ∧ (op = 9 ∨ op = 10 → strong op = 4) ∧ (op = 11 ∨ op = 12 → strong op = 3) ∧ (op = 13 → strong op = 1) ∧ (op = 14 → strong op = 0) := by
 unfold strong
 refine ⟨fun h => ?_, fun h => ?_, fun h => ?_, fun h => ?_, fun h => ?_, fun h => ?_⟩
 ·rw [if_neg (by omega), if_neg (by omega), if_neg (by omega), if_neg (by omega), if_neg (by omega)]
 ·rw [if_neg (by omega), if_neg (by omega), if_pos h]
 ·rw [if_neg (by omega), if_neg (by omega), if_neg (by omega), if_neg (by omega), if_pos h]
 ·rw [if_neg (by omega), if_neg (by omega), if_neg (by omega), if_pos h]
 ·rw [if_neg (by omega), if_pos h]
 ·rw [if_pos h]
theorem words_two {op n : Int} {s : List UInt8} {a b : Ex} (h9 : 9 ≤ op) (h14 : op ≤ 14) : (Ex.mk op n s [a, b]).words = pw (leastOf op 0) a ++ opW op :: pw (leastOf op 1) b := by
 simp only [Ex.words, Ex.wordss, List.getD_cons_zero, List.getD_cons_succ, exBodyW, pw]
 rw [if_neg (by omega), if_neg (by omega), if_neg (by omega), if_neg (by omega), if_neg (by omega), if_neg (by omega)]
theorem least_two {op : Int} (h9 : 9 ≤ op) (h14 : op ≤ 14) : leastOf op 0 = (if strong op = 3 then 4 else strong op) ∧ leastOf op 1 = strong op + 1 := by
 unfold leastOf
 refine ⟨?_, ?_⟩
 ·rw [if_neg (by omega), if_neg (by omega), if_pos rfl]
 ·rw [if_neg (by omega), if_neg (by omega), if_neg (by omega)]
theorem call_not (op : Int) : callT op ≠ kNot := by
 unfold callT
 split
 ·decide
 split <;> decide
theorem bool_not (n : Int) : boolT n ≠ kNot := by
 unfold boolT
 split <;> decide
theorem no_not : ∀ (m : Nat) (e : Ex), e.size ≤ m → ∀ d, e.ok d = true → 3 ≤ strong e.op → noNot e.words := by
 intro m
 induction m with
 | zero => intro e h; cases e; simp only [Ex.size] at h; omega
 | succ m ih =>
  intro e h d hok h3
  obtain ⟨op, n, s, x⟩ := e
  obtain ⟨o1, o2, hleaf, hx4, hx8, hx9⟩ := ex_shape hok
  obtain ⟨v7, v8, v9, v11, v13, v14⟩ := strong_vals o1 o2
  simp only [Ex.op] at h3
  simp only [Ex.size] at h
  by_cases h9 : 9 ≤ op
  ·obtain ⟨a, b, rfl, ha, hb⟩ := hx9 h9
   rw [words_two h9 o2]
   have hl := (least_two h9 o2).1
   have h4 : leastOf op 0 = 4 := by
    rw [hl]
    by_cases h12 : op ≤ 10
    ·have := v9 (by omega); rw [this]; simp
    ·by_cases h12 : op ≤ 12
     ·have := v11 (by omega); rw [this]; simp
     ·by_cases h13 : op = 13
      ·have := v13 h13; omega
      ·have := v14 (by omega); omega
   rw [h4]
   intro w hw
   unfold pw parW at hw
   split at hw
   ·simp only [List.cons_append, List.head?_cons, Option.some.injEq] at hw
    subst hw
    simp [sW]
   ·rename_i hlt
    simp only [decide_eq_true_eq, Nat.not_lt] at hlt
    have hne := words_ne ha
    cases hwa : a.words with
    | nil => exact absurd hwa hne
    | cons v l =>
     rw [hwa] at hw
     simp only [List.cons_append, List.head?_cons, Option.some.injEq] at hw
     subst hw
     exact ih a (by simp only [Ex.sizes] at h; omega) _ ha (by omega) v (by rw [hwa]; rfl)
  ·have hw : (Ex.mk op n s x).words = exBodyW op n s ((Ex.wordss op 0 x).getD 0 []) ((Ex.wordss op 0 x).getD 1 []) := by simp only [Ex.words]
   rw [hw]
   unfold exBodyW
   have h8 : ¬ op = 8 := fun h => by have := v8 h; omega
   intro w hw
   repeat' split at hw
   all_goals first
    | omega
    | (simp only [List.head?_cons, Option.some.injEq] at hw; subst hw; simp [kW, call_not, bool_not])
theorem pw_ge {k : Nat} {e : Ex} (h : k ≤ strong e.op) : pw k e = e.words := by
 unfold pw
 rw [decide_eq_false (by omega)]
 rfl
theorem pw_lt {k : Nat} {e : Ex} (h : strong e.op < k) : pw k e = sW [40] :: (e.words ++ [sW [41]]) := by
 unfold pw
 rw [decide_eq_true h]
 rfl
theorem op_word {op : Int} (h9 : 9 ≤ op) (h14 : op ≤ 14) : ((opW op).kind = 4 ∨ (opW op).kind = 5) ∧ (opW op).s ∈ sgn (strong op) ∧ opOf (opW op).s = op := by
 have h : op = 9 ∨ op = 10 ∨ op = 11 ∨ op = 12 ∨ op = 13 ∨ op = 14 := by omega
 rcases h with rfl | rfl | rfl | rfl | rfl | rfl <;> decide +kernel
theorem sgn_big {i : Nat} (h : 5 ≤ i) : sgn i = [] := by
 match i, h with
 | i + 5, _ => rfl
theorem fol_of {k : Nat} {w : Wd} {R : List Wd} (h : ∀ j, k ≤ j → j < 5 → w.s ∉ sgn j) : fol k (w :: R) := by
 intro j hj v hv
 simp only [List.head?_cons, Option.some.injEq] at hv
 subst hv
 rintro ⟨_, hm⟩
 by_cases h5 : j < 5
 ·exact h j hj h5 hm
 ·rw [sgn_big (by omega)] at hm; cases hm
theorem fol_op {op : Int} (h9 : 9 ≤ op) (h14 : op ≤ 14) (R : List Wd) : fol (strong op + 1) (opW op :: R) := by
 refine fol_of ?_
 have h : op = 9 ∨ op = 10 ∨ op = 11 ∨ op = 12 ∨ op = 13 ∨ op = 14 := by omega
 intro j hj h5
 have h : ∀ j : Fin 5, strong op + 1 ≤ j.val → (opW op).s ∉ sgn j.val := by
  rcases h with rfl | rfl | rfl | rfl | rfl | rfl <;> decide +kernel
 exact h ⟨j, h5⟩ hj
theorem fol_sign {t : List UInt8} (ht : ∀ j : Fin 5, t ∉ sgn j.val) (R : List Wd) (k : Int) (n : Int) : fol 0 (⟨k, t, n⟩ :: R) := fol_of fun j _ h5 => ht ⟨j, h5⟩
def Spn (part : PF) (signs : List (List UInt8)) (j : Nat) (e : Ex) (ws : List Wd) : Prop := ∀ R, R ≠ [] → fol (j + 1) R → ∃ M, M ≤ ws.length ∧ ∀ Nn, M ≤ Nn → ∀ s, At s (ws ++ R) → ∃ s', chain part signs Nn s = chainP part signs (Nn - M) e s' ∧ At s' R ∧ s'.st = s.st
theorem spn_base {part : PF} {signs : List (List UInt8)} {j : Nat} {e : Ex} {ws : List Wd} (h : ∀ R, R ≠ [] → fol (j + 1) R → Ps part e ws R) : Spn part signs j e ws := by
 intro R hR hf
 refine ⟨0, Nat.zero_le _, fun Nn _ s hs => ?_⟩
 obtain ⟨s', h1, h2, h3⟩ := h R hR hf s hs
 exact ⟨s', by unfold chain; rw [h1]; rfl, h2, h3⟩
theorem spn_step {part : PF} {signs : List (List UInt8)} {j : Nat} {op : Int} {a b : Ex} {wa wb : List Wd} (ha : Spn part signs j a wa) (hb : ∀ R, R ≠ [] → fol (j + 1) R → Ps part b wb R) (h9 : 9 ≤ op) (h14 : op ≤ 14) (hj : strong op = j) (hs : signs = sgn j) :
  Spn part signs j (.mk op 0 [] [a, b]) (wa ++ opW op :: wb) := by
 intro R hR hf
 obtain ⟨hk, hm, ho⟩ := op_word h9 h14
 obtain ⟨M, hM, hA⟩ := ha (opW op :: (wb ++ R)) (by simp) (by rw [← hj]; exact fol_op h9 h14 _)
 refine ⟨M + 1, by simp; omega, fun Nn hN s hAt => ?_⟩
 obtain ⟨s1, c1, c2, c3⟩ := hA Nn (by omega) s (by simpa using hAt)
 obtain ⟨k1, k2⟩ := c2.skip (by simp [hR])
 obtain ⟨s2, d1, d2, d3⟩ := hb R hR hf s1.skip k1
 refine ⟨s2, ?_, d2, by rw [d3, k2, c3]⟩
 rw [c1, show Nn - M = (Nn - (M + 1)) + 1 by omega]
 conv => lhs; unfold chainP
 rw [c2.takes hk (by rw [hs, ← hj]; exact hm)]
 simp only [ho, d1]
theorem chainP_end {part : PF} {signs : List (List UInt8)} {e : Ex} {s : PS} {R : List Wd} (h : At s R) (hR : R ≠ []) (hn : ∀ w, R.head? = some w → ¬ ((w.kind = 4 ∨ w.kind = 5) ∧ w.s ∈ signs)) : ∀ N, chainP part signs N e s = (e, s)
 | 0 => rfl
 | N + 1 => by
  cases R with
  | nil => exact absurd rfl hR
  | cons w R =>
   unfold chainP
   rw [h.takes_no (hn w rfl)]
theorem spn_fin {part : PF} {signs : List (List UInt8)} {j : Nat} {e : Ex} {ws : List Wd} (h : Spn part signs j e ws) (hs : signs = sgn j) (hl : ws.length ≤ 4096) {R : List Wd} (hR : R ≠ []) (hf : fol j R) : Ps (chain part signs 4096) e ws R := by
 intro s hAt
 obtain ⟨M, hM, hA⟩ := h R hR (hf.mono (by omega))
 obtain ⟨s', h1, h2, h3⟩ := hA 4096 (by omega) s hAt
 refine ⟨s', ?_, h2, h3⟩
 rw [h1]
 exact chainP_end h2 hR (fun w hw => by rw [hs]; exact hf j (Nat.le_refl _) w hw) _
def GoodX (e : Ex) : Prop := ∃ d, e.ok d = true
theorem leaf_two {op n : Int} {s : List UInt8} (h : leafOk op n s = true) (h5 : 5 ≤ op) : n = 0 ∧ s = [] := by
 unfold leafOk at h
 rw [if_neg (by omega), if_neg (by omega), if_neg (by omega), if_neg (by omega)] at h
 simp only [Bool.and_eq_true, decide_eq_true_eq] at h
 exact ⟨h.2, h.1⟩
theorem spn_all {part : PF} {j B m : Nat} (hj : j = 0 ∨ j = 1 ∨ j = 4) (hpart : ∀ e, e.size ≤ m → GoodX e → (pw (j + 1) e).length ≤ B → ∀ R, R ≠ [] → fol (j + 1) R → Ps part e (pw (j + 1) e) R) :
  ∀ (k : Nat) (e : Ex), e.size ≤ k → k ≤ m → GoodX e → (pw j e).length ≤ B → Spn part (sgn j) j e (pw j e) := by
 intro k
 induction k with
 | zero => intro e h; cases e; simp only [Ex.size] at h; omega
 | succ k ih =>
  intro e h hm hg hB
  by_cases hs : strong e.op = j
  ·obtain ⟨op, n, s, x⟩ := e
   obtain ⟨d, hok⟩ := hg
   obtain ⟨o1, o2, hleaf, hx4, hx8, hx9⟩ := ex_shape hok
   obtain ⟨v7, v8, v9, v11, v13, v14⟩ := strong_vals o1 o2
   simp only [Ex.op] at hs
   have h9 : 9 ≤ op := by
    by_cases h7 : op ≤ 7
    ·have := v7 h7; omega
    ·by_cases h8 : op = 8
     ·have := v8 h8; omega
     ·omega
   obtain ⟨a, b, rfl, ha, hb⟩ := hx9 h9
   obtain ⟨rfl, rfl⟩ := leaf_two hleaf (by omega)
   have hw := words_two (n := 0) (s := []) (a := a) (b := b) h9 o2
   obtain ⟨l0, l1⟩ := least_two h9 o2
   rw [if_neg (by omega), hs] at l0
   rw [hs] at l1
   rw [l0, l1] at hw
   have hp : pw j (Ex.mk op 0 [] [a, b]) = pw j a ++ opW op :: pw (j + 1) b := by
    rw [pw_ge (e := Ex.mk op 0 [] [a, b]) (show j ≤ strong op by omega)]
    exact hw
   simp only [Ex.size, Ex.sizes] at h
   rw [hp] at hB ⊢
   simp only [List.length_append, List.length_cons] at hB
   exact spn_step (ih a (by omega) (by omega) ⟨_, ha⟩ (by omega)) (fun R hR hf => hpart b (by omega) ⟨_, hb⟩ (by omega) R hR hf) h9 o2 hs rfl
  ·have hp : pw j e = pw (j + 1) e := by
    by_cases hlt : strong e.op < j
    ·rw [pw_lt hlt, pw_lt (by omega)]
    ·rw [pw_ge (by omega), pw_ge (by omega)]
   rw [hp] at hB ⊢
   exact spn_base (fun R hR hf => hpart e (by omega) hg hB R hR hf)
def PP (e : Ex) (k : Nat) : Prop := ∀ (N n : Nat) (R : List Wd), R ≠ [] → fol k R → (pw k e).length ≤ N → (pw k e).length ≤ n → (pw k e).length ≤ 4096 → Ps (PL (exprP N) n k) e (pw k e) R
def OW (e : Ex) : Prop := ∀ (N n : Nat) (R : List Wd), R ≠ [] → fol (strong e.op) R → e.words.length ≤ N → e.words.length ≤ n → e.words.length ≤ 4096 → Ps (PL (exprP N) n (strong e.op)) e e.words R
theorem inner_ps {N : Nat} {e : Ex} {ws R : List Wd} (hR : R ≠ []) (h : Ps (exprP N) e ws (sW [41] :: R)) : Ps (innerP (exprP N)) e (sW [40] :: (ws ++ [sW [41]])) R := by
 intro s hs
 have hs' : At s (sW [40] :: (ws ++ (sW [41] :: R))) := by simpa using hs
 obtain ⟨w1, w2⟩ := hs'.wants (.inr rfl) (by simp)
 obtain ⟨s1, h1, h2, h3⟩ := h _ w1
 obtain ⟨v1, v2⟩ := h2.wants (.inr rfl) hR
 refine ⟨s1.wants gRp, ?_, v1, by rw [← w2, ← h3]; exact v2⟩
 have e1 : (sW [40]).s = gLp := rfl
 rw [e1] at h1
 unfold innerP
 rw [h1]
theorem ow_step (m : Nat) (ih : ∀ e, e.size ≤ m → GoodX e → ∀ k, k ≤ 5 → PP e k) (e : Ex) (hm : e.size ≤ m + 1) (hg : GoodX e) : OW e := by
 obtain ⟨op, n0, s0, x⟩ := e
 obtain ⟨d, hok⟩ := hg
 obtain ⟨o1, o2, hleaf, hx4, hx8, hx9⟩ := ex_shape hok
 obtain ⟨v7, v8, v9, v11, v13, v14⟩ := strong_vals o1 o2
 intro N n R hR hf hN hn hB
 simp only [Ex.op] at hf ⊢
 simp only [Ex.size] at hm
 by_cases h9 : 9 ≤ op
 ·obtain ⟨a, b, rfl, ha, hb⟩ := hx9 h9
  obtain ⟨rfl, rfl⟩ := leaf_two hleaf (by omega)
  simp only [Ex.sizes] at hm
  have hw := words_two (n := 0) (s := []) (a := a) (b := b) h9 o2
  obtain ⟨l0, l1⟩ := least_two h9 o2
  have hlen := congrArg List.length hw
  simp only [List.length_append, List.length_cons] at hlen
  by_cases h3 : strong op = 3
  ·rw [if_pos h3] at l0
   rw [h3] at l1 hf ⊢
   have l1 : leastOf op 1 = 4 := l1
   rw [l0, l1] at hw hlen
   rw [hw]
   obtain ⟨hk, hm1, ho⟩ := op_word h9 o2
   rw [h3] at hm1
   have pa := ih a (by omega) ⟨_, ha⟩ 4 (by omega) N N (opW op :: (pw 4 b ++ R)) (by simp) (by have := fol_op h9 o2 (pw 4 b ++ R); rwa [h3] at this) (by omega) (by omega) (by omega)
   have pb := ih b (by omega) ⟨_, hb⟩ 4 (by omega) N N R hR (hf.mono (by omega)) (by omega) (by omega) (by omega)
   intro s hs
   obtain ⟨s1, c1, c2, c3⟩ := pa s (by simpa using hs)
   obtain ⟨k1, k2⟩ := c2.skip (by simp [hR])
   obtain ⟨s2, d1, d2, d3⟩ := pb s1.skip k1
   refine ⟨s2, ?_, d2, by rw [d3, k2, c3]⟩
   have e1 : (PL (exprP N) N 4) = sumP (exprP N) := rfl
   rw [e1] at c1 d1
   show chain (sumP (exprP N)) [gEE, gLt] 1 s = _
   unfold chain
   rw [c1]
   show chainP (sumP (exprP N)) (sgn 3) 1 a s1 = _
   unfold chainP
   rw [c2.takes hk hm1]
   simp only [d1, chainP, ho]
  ·have hj : strong op = 0 ∨ strong op = 1 ∨ strong op = 4 := by
    have h : op = 9 ∨ op = 10 ∨ op = 11 ∨ op = 12 ∨ op = 13 ∨ op = 14 := by omega
    rcases h with rfl | rfl | rfl | rfl | rfl | rfl <;> first | decide +kernel | exact absurd (v11 (by simp)) h3
   rw [if_neg h3] at l0
   obtain ⟨j, hjj⟩ : ∃ j, j = strong op := ⟨_, rfl⟩
   rw [← hjj] at l0 l1 hf hj ⊢
   rw [l0, l1] at hw hlen
   have hB' := hB
   rw [hw] at hB ⊢
   have key : ∀ part : PF, (∀ e, e.size ≤ m → GoodX e → (pw (j + 1) e).length ≤ (Ex.mk op 0 [] [a, b]).words.length → ∀ R, R ≠ [] → fol (j + 1) R → Ps part e (pw (j + 1) e) R) → Ps (chain part (sgn j) 4096) (Ex.mk op 0 [] [a, b]) (pw j a ++ opW op :: pw (j + 1) b) R := fun part hp =>
    spn_fin (spn_step (spn_all hj hp m a (by omega) (Nat.le_refl _) ⟨_, ha⟩ (by omega)) (fun R hR hf => hp b (by omega) ⟨_, hb⟩ (by omega) R hR hf) h9 o2 hjj.symm rfl) rfl hB hR hf
   rcases hj with rfl | rfl | rfl
   ·exact key (bothP (exprP N) n) (fun e h1 h2 h3 R h4 h5 => by
     have h3 : (pw 1 e).length ≤ _ := h3
     exact ih e h1 h2 1 (by omega) N n R h4 h5 (by omega) (by omega) (by omega))
   ·exact key (notP (exprP N) n) (fun e h1 h2 h3 R h4 h5 => by
     have h3 : (pw 2 e).length ≤ _ := h3
     exact ih e h1 h2 2 (by omega) N n R h4 h5 (by omega) (by omega) (by omega))
   ·exact key (partP (exprP N)) (fun e h1 h2 h3 R h4 h5 => by
     have h3 : (pw 5 e).length ≤ _ := h3
     exact ih e h1 h2 5 (by omega) N n R h4 h5 (by omega) (by omega) (by omega))
 by_cases h8 : op = 8
 ·subst h8
  obtain ⟨a, rfl, ha⟩ := hx8 (by omega) (by omega)
  obtain ⟨rfl, rfl⟩ := leaf_two hleaf (by omega)
  simp only [Ex.sizes] at hm
  have hw : (Ex.mk 8 0 [] [a]).words = kW kNot :: pw 2 a := by
   simp only [Ex.words, Ex.wordss, List.getD_cons_zero, exBodyW, pw]
   rfl
  have h2 : strong 8 = 2 := rfl
  rw [h2] at hf ⊢
  rw [hw] at hN hn hB ⊢
  simp only [List.length_cons] at hN hn hB
  obtain ⟨n', rfl⟩ : ∃ n', n = n' + 1 := ⟨n - 1, by omega⟩
  have pa := ih a (by omega) ⟨_, ha⟩ 2 (by omega) N n' R hR hf (by omega) (by omega) (by omega)
  intro s hs
  rw [List.cons_append] at hs
  obtain ⟨k1, k2⟩ := hs.skip (by simp [hR])
  obtain ⟨s', d1, d2, d3⟩ := pa s.skip k1
  refine ⟨s', ?_, d2, by rw [d3, k2]⟩
  show notP (exprP N) (n' + 1) s = _
  have e1 : PL (exprP N) n' 2 = notP (exprP N) n' := rfl
  rw [e1] at d1
  unfold notP
  rw [hs.takes (.inl rfl) (by simp [kW])]
  simp only [d1]
 have h7 : op ≤ 7 := by omega
 rw [v7 h7] at hf ⊢
 show Ps (partP (exprP N)) _ _ R
 by_cases h5 : 5 ≤ op
 ·obtain ⟨a, rfl, ha⟩ := hx8 h5 (by omega)
  obtain ⟨rfl, rfl⟩ := leaf_two hleaf (by omega)
  simp only [Ex.sizes] at hm
  have hl0 : leastOf op 0 = 0 := by
   unfold leastOf
   rw [if_neg (by omega), if_pos (by omega)]
  have hw : (Ex.mk op 0 [] [a]).words = kW (callT op) :: (sW [40] :: (a.words ++ [sW [41]])) := by
   simp only [Ex.words, Ex.wordss, List.getD_cons_zero, exBodyW]
   rw [if_neg (by omega), if_neg (by omega), if_neg (by omega), if_neg (by omega), if_neg (by omega), if_pos (by omega), hl0]
   rfl
  rw [hw] at hN hn hB ⊢
  simp only [List.length_cons, List.length_append, List.length_nil] at hN hn hB
  obtain ⟨N', rfl⟩ : ∃ N', N = N' + 1 := ⟨N - 1, by omega⟩
  have p0 : pw 0 a = a.words := pw_ge (Nat.zero_le _)
  have pa : Ps (exprP (N' + 1)) a a.words (sW [41] :: R) := by
   have := ih a (by omega) ⟨_, ha⟩ 0 (by omega) N' N' (sW [41] :: R) (by simp) (fol_sign (by decide +kernel) R 5 0) (by rw [p0]; omega) (by rw [p0]; omega) (by rw [p0]; omega)
   rwa [p0] at this
  have pi := inner_ps hR pa
  have hopc : callT op ∈ [kTrue, kFalse, kExists, kSize, kRead] ∧ callT op ≠ kTrue ∧ callT op ≠ kFalse ∧ opOf (callT op) = op ∧ callT op ≠ gLp := by
   have h : op = 5 ∨ op = 6 ∨ op = 7 := by omega
   rcases h with rfl | rfl | rfl <;> decide +kernel
  obtain ⟨q1, q2, q3, q4, q5⟩ := hopc
  intro s hs
  rw [List.cons_append] at hs
  obtain ⟨hh1, hh2, hh3⟩ := hs.head
  have hh1 : s.head.kind = 4 := hh1
  obtain ⟨k1, k2⟩ := hs.skip (by simp)
  obtain ⟨s', d1, d2, d3⟩ := pi s.skip k1
  refine ⟨s', ?_, d2, by rw [d3, k2]⟩
  unfold partP
  rw [if_neg (by rw [hh1]; decide), if_neg (by rw [hh1]; decide), if_neg (by rw [hh1]; decide), if_neg (by rw [hs.sees_no (by simp [kW, q5])]; simp), hs.takes (.inl rfl) q1]
  simp only [kW, if_neg q2, if_neg q3, q4, d1]
 ·have hx := hx4 (by omega)
  subst hx
  have h1234 : op = 1 ∨ op = 2 ∨ op = 3 ∨ op = 4 := by omega
  rcases h1234 with rfl | rfl | rfl | rfl
  ·have hl : s0 = [] := by simp [leafOk] at hleaf; exact hleaf.2
   subst hl
   have hw : (Ex.mk 1 n0 [] []).words = [⟨2, [], n0⟩] := rfl
   rw [hw]
   intro s hs
   obtain ⟨hh1, hh2, hh3⟩ := hs.head
   obtain ⟨k1, k2⟩ := hs.skip hR
   refine ⟨s.skip, ?_, k1, k2⟩
   unfold partP
   rw [if_pos hh1, hh3]
  ·have hl : n0 = 0 := by simp [leafOk] at hleaf; exact hleaf.2
   subst hl
   have hw : (Ex.mk 2 0 s0 []).words = [⟨3, s0, 0⟩] := rfl
   rw [hw]
   intro s hs
   obtain ⟨hh1, hh2, hh3⟩ := hs.head
   have hh1 : s.head.kind = 3 := hh1
   obtain ⟨k1, k2⟩ := hs.skip hR
   refine ⟨s.skip, ?_, k1, k2⟩
   unfold partP
   rw [if_neg (by rw [hh1]; decide), if_pos hh1, hh2]
  ·have hl : (n0 = 0 ∨ n0 = 1) ∧ s0 = [] := by simpa [leafOk] using hleaf
   obtain ⟨hn01, rfl⟩ := hl
   have hw : (Ex.mk 3 n0 [] []).words = [kW (boolT n0)] := rfl
   rw [hw]
   intro s hs
   obtain ⟨hh1, hh2, hh3⟩ := hs.head
   have hh1 : s.head.kind = 4 := hh1
   obtain ⟨k1, k2⟩ := hs.skip hR
   refine ⟨s.skip, ?_, k1, k2⟩
   have hbt : boolT n0 ∈ [kTrue, kFalse, kExists, kSize, kRead] ∧ boolT n0 ≠ gLp := by
    rcases hn01 with rfl | rfl <;> decide +kernel
   unfold partP
   rw [if_neg (by rw [hh1]; decide), if_neg (by rw [hh1]; decide), if_neg (by rw [hh1]; decide), if_neg (by rw [hs.sees_no (by simp [kW, hbt.2])]; simp), hs.takes (.inl rfl) hbt.1]
   rcases hn01 with rfl | rfl
   ·simp [kW, boolT]
   ·simp [kW, boolT]
  ·have hl : n0 = 0 := by simp [leafOk] at hleaf; exact hleaf.2
   subst hl
   have hw : (Ex.mk 4 0 s0 []).words = [⟨1, s0, 0⟩] := rfl
   rw [hw]
   intro s hs
   obtain ⟨hh1, hh2, hh3⟩ := hs.head
   have hh1 : s.head.kind = 1 := hh1
   obtain ⟨k1, k2⟩ := hs.skip hR
   refine ⟨s.skip, ?_, k1, k2⟩
   unfold partP
   rw [if_neg (by rw [hh1]; decide), if_neg (by rw [hh1]; decide), if_pos hh1, hh2]
theorem strong_le (op : Int) : strong op ≤ 5 := by
 unfold strong
 repeat' split
 all_goals omega
theorem pp_all : ∀ (m : Nat) (e : Ex), e.size ≤ m → GoodX e → ∀ k, k ≤ 5 → PP e k := by
 intro m
 induction m with
 | zero => intro e h; cases e; simp only [Ex.size] at h; omega
 | succ m ih =>
  intro e hm hg k hk
  have how := ow_step m ih e hm hg
  obtain ⟨d, hok⟩ := hg
  have hne := words_ne hok
  have hs5 := strong_le e.op
  have low : ∀ k, k ≤ strong e.op → ∀ (N n : Nat) (R : List Wd), R ≠ [] → fol k R → e.words.length ≤ N → e.words.length ≤ n → e.words.length ≤ 4096 → Ps (PL (exprP N) n k) e e.words R := by
   intro k hk N n R hR hf h1 h2 h3
   have hh := how N n R hR (hf.mono hk) h1 h2 h3
   refine lift hR hne (strong e.op - k) k (by omega) (by rwa [show k + (strong e.op - k) = strong e.op by omega]) hf (fun _ h => ?_)
   exact no_not _ e (Nat.le_refl _) d hok (by omega)
  intro N n R hR hf h1 h2 h3
  by_cases hlt : strong e.op < k
  ·rw [pw_lt hlt] at h1 h2 h3 ⊢
   simp only [List.length_cons, List.length_append, List.length_nil] at h1 h2 h3
   obtain ⟨N', rfl⟩ : ∃ N', N = N' + 1 := ⟨N - 1, by omega⟩
   have hin : Ps (exprP (N' + 1)) e e.words (sW [41] :: R) := low 0 (Nat.zero_le _) N' N' (sW [41] :: R) (by simp) (fol_sign (by decide +kernel) R 5 0) (by omega) (by omega) (by omega)
   have pi := inner_ps hR hin
   have hpart : Ps (partP (exprP (N' + 1))) e (sW [40] :: (e.words ++ [sW [41]])) R := by
    intro s hs
    obtain ⟨s', d1, d2, d3⟩ := pi s hs
    refine ⟨s', ?_, d2, d3⟩
    rw [List.cons_append] at hs
    obtain ⟨hh1, hh2, hh3⟩ := hs.head
    have hh1 : s.head.kind = 5 := hh1
    unfold partP
    rw [if_neg (by rw [hh1]; decide), if_neg (by rw [hh1]; decide), if_neg (by rw [hh1]; decide), if_pos (by rw [hs.sees (.inr rfl) (by simp [sW])]; rfl)]
    exact d1
   refine lift hR (by simp) (5 - k) k (by omega) ?_ hf (fun _ _ w hw => ?_)
   ·rw [show k + (5 - k) = 5 by omega]
    exact hpart
   ·simp only [List.head?_cons, Option.some.injEq] at hw
    subst hw
    simp [sW]
  ·rw [pw_ge (by omega)] at h1 h2 h3 ⊢
   exact low k (by omega) N n R hR hf h1 h2 h3
theorem expr_again {e : Ex} {d : Nat} (hok : e.ok d = true) {N : Nat} {R : List Wd} (hR : R ≠ []) (hf : fol 0 R) (hN : e.words.length < N) (hB : e.words.length ≤ 4096) : Ps (exprP N) e e.words R := by
 obtain ⟨N', rfl⟩ : ∃ N', N = N' + 1 := ⟨N - 1, by omega⟩
 have p0 : pw 0 e = e.words := pw_ge (Nat.zero_le _)
 have := pp_all e.size e (Nat.le_refl _) ⟨d, hok⟩ 0 (by omega) N' N' R hR hf (by rw [p0]; omega) (by rw [p0]; omega) (by rw [p0]; omega)
 rwa [p0] at this
mutual
theorem ok_deep : ∀ (e : Ex) (d : Nat), e.ok d = true → e.deep ≤ d
 | .mk op n s x, d, h => by
  rw [Ex.ok] at h
  cases hpo : parts op with
  | none => rw [hpo] at h; cases h
  | some k =>
  rw [hpo] at h
  simp only [Bool.and_eq_true, decide_eq_true_eq] at h
  have := oks_deep x (d - 1) h.2
  simp only [Ex.deep]
  omega
theorem oks_deep : ∀ (l : List Ex) (d : Nat), Ex.oks l d = true → Ex.deeps l ≤ d
 | [], _, _ => by simp [Ex.deeps]
 | e :: l, d, h => by
  simp only [Ex.oks, Bool.and_eq_true] at h
  have h1 := ok_deep e d h.1
  have h2 := oks_deep l d h.2
  simp only [Ex.deeps]
  omega
end
theorem whole_again {e : Ex} (hok : e.ok 8 = true) {v : Wd} (hv : v.kind = 4 ∨ v.kind = 5) {R : List Wd} (hf : fol 0 (v :: R)) {N : Nat} (hN : e.words.length < N) (hB : e.words.length ≤ 4096) : Ps (wholeP v.s N) e e.words (v :: R) := by
 intro s hs
 obtain ⟨s', h1, h2, h3⟩ := expr_again hok (by simp) hf hN hB s hs
 refine ⟨s', ?_, h2, h3⟩
 have hd := ok_deep e 8 hok
 unfold wholeP
 simp only [h1]
 rw [if_neg (by simpa using h2.clean), if_neg (by rw [h2.sees hv (by simp)]; simp), if_neg (by omega)]
theorem whole_end {e : Ex} (hok : e.ok 8 = true) {v : Wd} (hv : v.kind = 0) {R : List Wd} (hf : fol 0 (v :: R)) {N : Nat} (hN : e.words.length < N) (hB : e.words.length ≤ 4096) : Ps (wholeP [] N) e e.words (v :: R) := by
 intro s hs
 obtain ⟨s', h1, h2, h3⟩ := expr_again hok (by simp) hf hN hB s hs
 refine ⟨s', ?_, h2, h3⟩
 have hd := ok_deep e 8 hok
 have hk := h2.head.1
 unfold wholeP
 simp only [h1]
 rw [if_neg (by simpa using h2.clean), if_neg (by simp [hk, hv]), if_neg (by omega)]
theorem exprsG_again {n : Nat} : ∀ (l : List Ex) (acc : List Ex) (R : List Wd), l ≠ [] → R ≠ [] → Ex.oks l 8 = true → (exsW true l).length < n → (exsW true l).length ≤ 4096 → ∀ s, At s (exsW true l ++ sW [59] :: R) → ∃ s', exprsG n l.length acc s = (acc ++ l, s') ∧ At s' R ∧ s'.st = s.st := by
 intro l
 induction l with
 | nil => intro _ _ h; exact absurd rfl h
 | cons e l ih =>
  intro acc R _ hR ho hn hB s hs
  simp only [Ex.oks, Bool.and_eq_true] at ho
  have hw : exsW true (e :: l) = e.words ++ exsW false l := by simp [exsW]
  rw [hw] at hn hB hs
  simp only [List.length_append] at hn hB
  cases l with
  | nil =>
   have hs' : At s (e.words ++ sW [59] :: R) := by simpa [exsW] using hs
   obtain ⟨s1, h1, h2, h3⟩ := whole_again (N := n) ho.1 (v := sW [59]) (.inr rfl) (fol_sign (by decide +kernel) R 5 0) (by omega) (by omega) s hs'
   obtain ⟨v1, v2⟩ := h2.wants (.inr rfl) hR
   refine ⟨s1.wants gSe, ?_, v1, by rw [← h3]; exact v2⟩
   have e1 : (sW [59]).s = gSe := rfl
   rw [e1] at h1
   simp only [List.length_cons, List.length_nil, exprsG, if_true, h1]
  | cons e' l' =>
   have hs' : At s (e.words ++ sW [44] :: (exsW true (e' :: l') ++ sW [59] :: R)) := by simpa [exsW] using hs
   have hlen : (exsW false (e' :: l')).length = (exsW true (e' :: l')).length + 1 := by simp [exsW]
   obtain ⟨s1, h1, h2, h3⟩ := whole_again (N := n) ho.1 (v := sW [44]) (.inr rfl) (fol_sign (by decide +kernel) _ 5 0) (by omega) (by omega) s hs'
   obtain ⟨v1, v2⟩ := h2.wants (.inr rfl) (by simp)
   obtain ⟨s2, k1, k2, k3⟩ := ih (acc ++ [e]) R (by simp) hR ho.2 (by omega) (by omega) _ v1
   refine ⟨s2, ?_, k2, by rw [k3, v2, h3]⟩
   have e1 : (sW [44]).s = gCo := rfl
   rw [e1] at h1 k1
   rw [List.length_cons]
   unfold exprsG
   have hne : ¬ (e' :: l').length = 0 := by simp
   simp only [if_neg hne, h1, k1, List.append_assoc, List.singleton_append]
theorem nEx_exprs {op : Int} {k : Nat} (h : exprs op = some k) : nEx op = k := by
 obtain ⟨h1, h18⟩ := exprs_some h
 have hc : op = 1 ∨ op = 2 ∨ op = 3 ∨ op = 4 ∨ op = 5 ∨ op = 6 ∨ op = 7 ∨ op = 8 ∨ op = 9 ∨ op = 10 ∨ op = 11 ∨ op = 12 ∨ op = 13 ∨ op = 14 ∨ op = 15 ∨ op = 16 ∨ op = 17 ∨ op = 18 := by omega
 rcases hc with rfl | rfl | rfl | rfl | rfl | rfl | rfl | rfl | rfl | rfl | rfl | rfl | rfl | rfl | rfl | rfl | rfl | rfl
 all_goals (simp [exprs] at h; subst h; rfl)
theorem exprsP_again {n : Nat} {op : Int} {l : List Ex} (hl : exprs op = some l.length) {R : List Wd} (hR : R ≠ []) (ho : Ex.oks l 8 = true) (hn : (exsW true l).length < n) (hB : (exsW true l).length ≤ 4096) {s : PS} (hs : At s (exsW true l ++ sW [59] :: R)) : ∃ s', exprsP n op s = (l, s') ∧ At s' R ∧ s'.st = s.st := by
 have hx := nEx_exprs hl
 unfold exprsP
 cases l with
 | nil =>
  simp only [List.length_nil] at hx
  rw [if_pos hx]
  have hs' : At s (sW [59] :: R) := by simpa [exsW] using hs
  obtain ⟨v1, v2⟩ := hs'.wants (.inr rfl) hR
  exact ⟨_, rfl, v1, v2⟩
 | cons e l =>
  rw [if_neg (by rw [hx]; simp), hx]
  obtain ⟨s', h1, h2, h3⟩ := exprsG_again (e :: l) [] R (by simp) hR ho hn hB s hs
  exact ⟨s', by simpa using h1, h2, h3⟩
mutual
def Sm.cnt : Sm → Nat
 | .mk _ _ _ _ b c _ => 1 + Sm.cnts b + Sm.cnts c
def Sm.cnts : List Sm → Nat
 | [] => 0
 | e :: l => e.cnt + Sm.cnts l
end
def noElse (R : List Wd) : Prop := ∀ w, R.head? = some w → ¬ ((w.kind = 4 ∨ w.kind = 5) ∧ w.s ∈ [kElse])
def PsS (stm : SF) (e : Sm) (d : Nat) : Prop := ∀ R, R ≠ [] → noElse R → ∀ s, At s (e.words ++ R) → s.st + e.cnt ≤ 256 → ∃ s', stm d s = (e, s') ∧ At s' R ∧ s'.st = s.st + e.cnt
theorem keyT_ne (op : Int) (h1 : 1 ≤ op) (h2 : op ≤ 18) : keyT op ≠ gRb ∧ keyT op ≠ kElse ∧ (op ≠ 3 → keyT op ≠ kWrite) := by
 have h : ((List.range 18).all fun j => !(decide (keysT.getD j [] = gRb)) && !(decide (keysT.getD j [] = kElse)) && (decide (j = 2) || !(decide (keysT.getD j [] = kWrite)))) = true := by kernel_rfl
 have := List.all_eq_true.1 h (op - 1).toNat (List.mem_range.2 (by omega))
 simp only [Bool.and_eq_true, Bool.not_eq_true', decide_eq_false_iff_not, Bool.or_eq_true, decide_eq_true_eq] at this
 refine ⟨this.1.1, this.1.2, fun h3 => ?_⟩
 rcases this.2 with h | h
 ·omega
 ·exact h
theorem sm_first (e : Sm) : ∃ l, e.words = kW (keyT e.op) :: l := by
 obtain ⟨op, s, n, x, b, c, g⟩ := e
 exact ⟨_, by simp only [Sm.words]; rfl⟩
theorem sm_op {e : Sm} {d : Nat} (h : e.ok d = true) : 1 ≤ e.op ∧ e.op ≤ 18 := by
 obtain ⟨op, s, n, x, b, c, g⟩ := e
 obtain ⟨_, hsh, _⟩ := Sm.ok_parts h
 unfold shapeOk at hsh
 cases hxs : exprs op with
 | none => rw [hxs] at hsh; cases hsh
 | some k => exact exprs_some hxs
theorem noElse_rest {l : List Sm} {d : Nat} (h : Sm.oks l d = true) (R : List Wd) : noElse (Sm.wordss l ++ sW [125] :: R) := by
 intro w hw
 cases l with
 | nil =>
  simp only [Sm.wordss, List.nil_append, List.head?_cons, Option.some.injEq] at hw
  subst hw
  simp [sW]
 | cons e l =>
  simp only [Sm.oks, Bool.and_eq_true] at h
  obtain ⟨q, hq⟩ := sm_first e
  obtain ⟨h1, h2⟩ := sm_op h.1
  rw [Sm.wordss, hq] at hw
  simp only [List.cons_append, List.head?_cons, Option.some.injEq] at hw
  subst hw
  simp [kW, (keyT_ne e.op h1 h2).2.1]
theorem blockG_again {stm : SF} {d : Nat} : ∀ (l : List Sm) (acc : List Sm) (k : Nat) (R : List Wd), l.length < k → R ≠ [] → Sm.oks l d = true → (∀ e ∈ l, PsS stm e d) → ∀ s, At s (Sm.wordss l ++ sW [125] :: R) → s.st + Sm.cnts l ≤ 256 → ∃ s', blockG (stm d) k acc s = (acc ++ l, s') ∧ At s' R ∧ s'.st = s.st + Sm.cnts l := by
 intro l
 induction l with
 | nil =>
  intro acc k R hk hR ho hp s hs hc
  obtain ⟨k', rfl⟩ : ∃ k', k = k' + 1 := ⟨k - 1, by simp at hk; omega⟩
  have hs' : At s (sW [125] :: R) := by simpa [Sm.wordss] using hs
  obtain ⟨v1, v2⟩ := hs'.skip hR
  refine ⟨s.skip, ?_, v1, by rw [v2]; simp [Sm.cnts]⟩
  unfold blockG
  rw [if_neg (by simpa using hs.clean), hs'.takes (.inr rfl) (by simp [sW])]
  simp
 | cons e l ih =>
  intro acc k R hk hR ho hp s hs hc
  simp only [List.length_cons] at hk
  obtain ⟨k', rfl⟩ : ∃ k', k = k' + 1 := ⟨k - 1, by omega⟩
  simp only [Sm.oks, Bool.and_eq_true] at ho
  simp only [Sm.cnts] at hc
  obtain ⟨q, hq⟩ := sm_first e
  obtain ⟨o1, o2⟩ := sm_op ho.1
  have hs' : At s (e.words ++ (Sm.wordss l ++ sW [125] :: R)) := by simpa [Sm.wordss] using hs
  have hs2 := hs'
  rw [hq, List.cons_append] at hs2
  obtain ⟨s1, h1, h2, h3⟩ := hp e (by simp) (Sm.wordss l ++ sW [125] :: R) (by simp) (noElse_rest ho.2 R) s hs' (by omega)
  obtain ⟨s2, k1, k2, k3⟩ := ih (acc ++ [e]) k' R (by omega) hR ho.2 (fun y hy => hp y (by simp [hy])) s1 h2 (by omega)
  refine ⟨s2, ?_, k2, by simp only [Sm.cnts]; omega⟩
  unfold blockG
  rw [if_neg (by simpa using hs.clean), hs2.takes_no (by simp [kW, (keyT_ne e.op o1 o2).1])]
  simp only [h1, k1, List.append_assoc, List.singleton_append]
theorem blockP_again {stm : SF} {d n : Nat} {l : List Sm} {R : List Wd} (hk : l.length < n) (hR : R ≠ []) (ho : Sm.oks l d = true) (hp : ∀ e ∈ l, PsS stm e d) {s : PS} (hs : At s (blkW l ++ R)) (hc : s.st + Sm.cnts l ≤ 256) : ∃ s', blockP stm n d s = (l, s') ∧ At s' R ∧ s'.st = s.st + Sm.cnts l := by
 have hs' : At s (sW [123] :: (Sm.wordss l ++ sW [125] :: R)) := by simpa [blkW] using hs
 obtain ⟨v1, v2⟩ := hs'.wants (.inr rfl) (by simp)
 obtain ⟨s', h1, h2, h3⟩ := blockG_again l [] n R hk hR ho hp _ v1 (by rw [v2]; exact hc)
 refine ⟨s', ?_, h2, by rw [h3, v2]⟩
 unfold blockP
 exact h1
theorem wordss_len : ∀ l : List Sm, l.length ≤ (Sm.wordss l).length
 | [] => by simp
 | e :: l => by
  obtain ⟨q, hq⟩ := sm_first e
  have := wordss_len l
  simp only [Sm.wordss, hq, List.length_append, List.length_cons]
  omega
theorem wordss_mem : ∀ {l : List Sm} {e : Sm}, e ∈ l → e.words.length ≤ (Sm.wordss l).length
 | x :: l, e, h => by
  simp only [Sm.wordss, List.length_append]
  rcases List.mem_cons.1 h with rfl | h
  ·omega
  ·have := wordss_mem h; omega
theorem txnG_again {stm : SF} {d : Nat} : ∀ (l : List Sm) (acc : List Sm) (k : Nat) (R : List Wd), l.length ≤ k → R ≠ [] → Sm.oks l d = true → (∀ e ∈ l, e.op = 3) → (∀ e ∈ l, PsS stm e d) → ∀ s, At s (Sm.wordss l ++ sW [125] :: R) → s.st + Sm.cnts l ≤ 256 → ∃ s', txnG (stm d) k acc s = (acc ++ l, s') ∧ At s' (sW [125] :: R) ∧ s'.st = s.st + Sm.cnts l := by
 intro l
 induction l with
 | nil =>
  intro acc k R hk hR ho h3 hp s hs hc
  have hs' : At s (sW [125] :: R) := by simpa [Sm.wordss] using hs
  have hn : s.sees [kWrite] = none := hs'.sees_no (by simp [sW])
  refine ⟨s, ?_, hs', by simp [Sm.cnts]⟩
  cases k with
  | zero =>
   unfold txnG
   rw [hn]
   simp
  | succ k =>
   unfold txnG
   rw [hn]
   simp
 | cons e l ih =>
  intro acc k R hk hR ho h3 hp s hs hc
  simp only [List.length_cons] at hk
  obtain ⟨k', rfl⟩ : ∃ k', k = k' + 1 := ⟨k - 1, by omega⟩
  simp only [Sm.oks, Bool.and_eq_true] at ho
  simp only [Sm.cnts] at hc
  obtain ⟨q, hq⟩ := sm_first e
  have hs' : At s (e.words ++ (Sm.wordss l ++ sW [125] :: R)) := by simpa [Sm.wordss] using hs
  have hs2 := hs'
  rw [hq, List.cons_append] at hs2
  have h3e := h3 e (by simp)
  have hkw : keyT 3 = kWrite := by
   have h : keysT.getD 2 [] = kWrite := by kernel_rfl
   exact h
  obtain ⟨s1, h1, h2, h3'⟩ := hp e (by simp) (Sm.wordss l ++ sW [125] :: R) (by simp) (noElse_rest ho.2 R) s hs' (by omega)
  obtain ⟨s2, k1, k2, k3⟩ := ih (acc ++ [e]) k' R (by omega) hR ho.2 (fun y hy => h3 y (by simp [hy])) (fun y hy => hp y (by simp [hy])) s1 h2 (by omega)
  refine ⟨s2, ?_, k2, by simp only [Sm.cnts]; omega⟩
  unfold txnG
  rw [hs2.sees (.inl rfl) (by rw [h3e]; simp [kW, hkw])]
  simp only [Option.isSome_some, if_true, h1, k1, List.append_assoc, List.singleton_append]
theorem simple_key {op : Int} (h : op ≤ 11 ∨ op = 17 ∨ op = 18) (h1 : 1 ≤ op) {w : Wx} (hk : w.kind = 4) (hs : w.s = keyT op) : simpleP w = some op ∧ keyT op ∉ [kLet, kCall, kIf, kRepeat, kTxn] := by
 have hc : op = 1 ∨ op = 2 ∨ op = 3 ∨ op = 4 ∨ op = 5 ∨ op = 6 ∨ op = 7 ∨ op = 8 ∨ op = 9 ∨ op = 10 ∨ op = 11 ∨ op = 17 ∨ op = 18 := by omega
 have hA : ((List.range 18).all fun j => decide (j = 11 ∨ j = 12 ∨ j = 13 ∨ j = 14 ∨ j = 15) || (decide (simpleP ⟨4, keysT.getD j [], 0, 0⟩ = some ((j : Int) + 1)) && !(decide (keysT.getD j [] ∈ [kLet, kCall, kIf, kRepeat, kTxn])))) = true := by kernel_rfl
 have := List.all_eq_true.1 hA (op - 1).toNat (List.mem_range.2 (by omega))
 simp only [Bool.or_eq_true, decide_eq_true_eq, Bool.and_eq_true, Bool.not_eq_true', decide_eq_false_iff_not] at this
 rcases this with h | ⟨h1', h2'⟩
 ·omega
 ·have e : simpleP w = simpleP ⟨4, keysT.getD (op - 1).toNat [], 0, 0⟩ := by
   unfold simpleP
   rw [hk, hs]
   rfl
  refine ⟨?_, h2'⟩
  rw [e, h1']
  congr 1
  omega
theorem keyT_let : keyT 12 = kLet := (show keysT.getD 11 [] = kLet by kernel_rfl)
theorem keyT_if : keyT 13 = kIf := (show keysT.getD 12 [] = kIf by kernel_rfl)
theorem keyT_rep : keyT 14 = kRepeat := (show keysT.getD 13 [] = kRepeat by kernel_rfl)
theorem keyT_call : keyT 15 = kCall := (show keysT.getD 14 [] = kCall by kernel_rfl)
theorem keyT_txn : keyT 16 = kTxn := (show keysT.getD 15 [] = kTxn by kernel_rfl)
def begun (s : PS) : PS := ⟨s.left, s.fe, s.fa, s.st + 1, s.o⟩
theorem begun_at {s : PS} {w : Wd} {R : List Wd} (h : At s (w :: R)) (hR : R ≠ []) : At (begun s).skip R ∧ (begun s).skip.st = s.st + 1 := by
 have hb : At (begun s) (w :: R) := ⟨h.fe, h.fa, h.left⟩
 obtain ⟨a, b⟩ := hb.skip hR
 exact ⟨a, b⟩
theorem stmt_again : ∀ (N : Nat) (e : Sm) (d : Nat), e.ok d = true → e.words.length < N → e.words.length ≤ 4096 → PsS (stmtP N) e d := by
 intro N
 induction N with
 | zero => intro e d _ h; omega
 | succ n ih =>
  intro e d hok hN hB R hR hel s hs hst
  obtain ⟨op, t, m, x, b, c, g⟩ := e
  obtain ⟨h8, hsh, htx, hob, hoc⟩ := Sm.ok_parts hok
  unfold shapeOk at hsh
  cases hxs : exprs op with
  | none => rw [hxs] at hsh; cases hsh
  | some k =>
  rw [hxs] at hsh
  simp only [Bool.and_eq_true, decide_eq_true_eq, Bool.or_eq_true, Bool.not_eq_true'] at hsh
  obtain ⟨hk, hnm, hn0, hn16, hn14, hg16, hb0, hc0, hoe⟩ := hsh
  obtain ⟨o1, o2⟩ := exprs_some hxs
  rw [← hk] at hxs
  simp only [Sm.cnt] at hst
  have hw : (Sm.mk op t m x b c g).words = kW (keyT op) :: (midW op t m ++ exsW true x ++
   (if op = 13 ∨ op = 14 then blkW b ++ (if c.length = 0 then [] else kW kElse :: blkW c)
   else (if op = 16 then blkW b ++ (if g then [kW kCommit] else []) else []) ++ [sW [59]])) := by simp only [Sm.words, blkW]
  rw [hw] at hN hB hs
  simp only [List.length_cons, List.length_append] at hN hB
  have hsk := hs
  rw [List.cons_append] at hsk
  obtain ⟨hh1, hh2, hh3⟩ := hsk.head
  have hh1 : s.head.kind = 4 := hh1
  have hh2 : s.head.s = keyT op := hh2
  have hblk : ∀ (l : List Sm) (Q : List Wd), Sm.oks l (d + 1) = true → (blkW l).length < n → (blkW l).length ≤ 4096 → Q ≠ [] → ∀ s : PS, At s (blkW l ++ Q) → s.st + Sm.cnts l ≤ 256 → ∃ s', blockP (stmtP n) n ((d : Int) + 1) s = (l, s') ∧ At s' Q ∧ s'.st = s.st + Sm.cnts l := by
   intro l Q ho h1 h2 hQ s hs hc
   have hl := wordss_len l
   simp only [blkW, List.length_cons, List.length_append, List.length_nil] at h1 h2
   exact blockP_again (d := d + 1) (by omega) hQ ho (fun y hy => ih y (d + 1) (by rw [Sm.oks_all] at ho; exact List.all_eq_true.1 ho y hy) (by have := wordss_mem hy; omega) (by have := wordss_mem hy; omega)) hs hc
  have hst256 : ¬ (256 < s.st + 1 ∨ 8 < (d : Int)) := by omega
  by_cases hsimple : op ≤ 11 ∨ op = 17 ∨ op = 18
  ·obtain ⟨hsp, hnk⟩ := simple_key hsimple o1 hh1 hh2
   have ht : t = [] := by rw [if_neg (by omega)] at hnm; simpa using hnm
   have hm : m = 0 := by rcases hn14 with h | h <;> omega
   have hbn : b = [] := by
    rcases hb0 with h | h
    ·omega
    ·exact h
   have hcn : c = [] := by
    rcases hc0 with h | h
    ·omega
    ·exact h
   have hgn : g = false := by
    rcases hg16 with h | h
    ·omega
    ·exact h
   subst ht hm hbn hcn hgn
   have hmid : midW op [] 0 = [] := by unfold midW; rw [if_neg (by omega), if_neg (by omega), if_neg (by omega)]
   rw [hmid, if_neg (by omega), if_neg (by omega)] at hsk
   rw [hmid] at hN hB
   have hs1 : At s (kW (keyT op) :: (exsW true x ++ sW [59] :: R)) := by simpa using hsk
   obtain ⟨v1, v2⟩ := begun_at hs1 (by simp)
   obtain ⟨s', k1, k2, k3⟩ := exprsP_again (n := n) hxs hR hoe (by simp only [List.length_nil] at hN; omega) (by omega) v1
   refine ⟨s', ?_, k2, by rw [k3, v2]; simp [Sm.cnt, Sm.cnts]⟩
   show stmtB (stmtP n) n d s = _
   unfold stmtB
   rw [hsp, hs1.sees_no (by simp [kW, hnk])]
   simp only [Option.isNone_some, Bool.false_eq_true, false_and, if_false, Option.getD_some]
   rw [if_neg hst256]
   have : (⟨s.left, s.fe, s.fa, s.st + 1, s.o⟩ : PS) = begun s := rfl
   rw [this, k1]
  have start : ∀ (T : List UInt8) (Q : List Wd), keyT op = T → T ∈ [kLet, kCall, kIf, kRepeat, kTxn] → At s (kW (keyT op) :: Q) → Q ≠ [] → stmtP (n + 1) d s = (if T = kLet then letP n (begun s).skip else if T = kCall then callP n (begun s).skip else if T = kIf then choiceP (stmtP n) n d (begun s).skip else if T = kRepeat then loopP (stmtP n) n d (begun s).skip else txnP (stmtP n) n d (begun s).skip) ∧ At (begun s).skip Q ∧ (begun s).skip.st = s.st + 1 := by
   intro T Q hT hmem h hQ
   obtain ⟨v1, v2⟩ := begun_at h hQ
   refine ⟨?_, v1, v2⟩
   have hsee := h.sees (l := [kLet, kCall, kIf, kRepeat, kTxn]) (.inl rfl) (by rw [← hT] at hmem; exact hmem)
   have e1 : (kW (keyT op)).s = T := hT
   rw [e1] at hsee
   show stmtB (stmtP n) n d s = _
   unfold stmtB
   rw [hsee]
   simp only [Option.isNone_some, Bool.false_eq_true, and_false, if_false]
   rw [if_neg hst256]
   rfl
  by_cases h12 : op = 12
  ·subst h12
   have hm : m = 0 := by rcases hn14 with h | h <;> omega
   have hbn : b = [] := by
    rcases hb0 with h | h
    ·omega
    ·exact h
   have hcn : c = [] := by
    rcases hc0 with h | h
    ·omega
    ·exact h
   have hgn : g = false := by
    rcases hg16 with h | h
    ·omega
    ·exact h
   subst hm hbn hcn hgn
   have hmid : midW 12 t 0 = [⟨1, t, 0⟩, sW [61]] := rfl
   rw [hmid] at hsk hN hB
   simp only [List.length_cons, List.length_nil] at hN hB
   rw [if_neg (by omega), if_neg (by omega)] at hsk
   have hs1 : At s (kW (keyT 12) :: (⟨1, t, 0⟩ :: sW [61] :: (exsW true x ++ sW [59] :: R))) := by simpa using hsk
   obtain ⟨e1, v1, v2⟩ := start kLet _ keyT_let (by simp) hs1 (by simp)
   obtain ⟨f1, f2, f3, f4⟩ := v1.of (by simp)
   obtain ⟨g1, g2⟩ := f3.wants (.inr rfl) (by simp)
   obtain ⟨s', k1, k2, k3⟩ := exprsP_again (n := n) hxs hR hoe (by omega) (by omega) g1
   refine ⟨s', ?_, k2, by rw [k3, g2, f4, v2]; simp [Sm.cnt, Sm.cnts]⟩
   rw [e1, if_pos rfl]
   unfold letP
   have q1 : ((begun s).skip.of 1).1.s = t := f1
   have q2 : exprsP n 12 (((begun s).skip.of 1).2.wants [61]) = (x, s') := k1
   simp only [q1, q2]
  by_cases h15 : op = 15
  ·subst h15
   have hm : m = 0 := by rcases hn14 with h | h <;> omega
   have hbn : b = [] := by
    rcases hb0 with h | h
    ·omega
    ·exact h
   have hcn : c = [] := by
    rcases hc0 with h | h
    ·omega
    ·exact h
   have hgn : g = false := by
    rcases hg16 with h | h
    ·omega
    ·exact h
   subst hm hbn hcn hgn
   have hmid : midW 15 t 0 = [⟨1, t, 0⟩] := rfl
   rw [hmid] at hsk hN hB
   simp only [List.length_cons, List.length_nil] at hN hB
   rw [if_neg (by omega), if_neg (by omega)] at hsk
   have hs1 : At s (kW (keyT 15) :: (⟨1, t, 0⟩ :: (exsW true x ++ sW [59] :: R))) := by simpa using hsk
   obtain ⟨e1, v1, v2⟩ := start kCall _ keyT_call (by simp) hs1 (by simp)
   obtain ⟨f1, f2, f3, f4⟩ := v1.of (by simp)
   obtain ⟨s', k1, k2, k3⟩ := exprsP_again (n := n) hxs hR hoe (by omega) (by omega) f3
   refine ⟨s', ?_, k2, by rw [k3, f4, v2]; simp [Sm.cnt, Sm.cnts]⟩
   rw [e1, if_neg (by decide), if_pos rfl]
   unfold callP
   have q1 : ((begun s).skip.of 1).1.s = t := f1
   have q2 : exprsP n 15 ((begun s).skip.of 1).2 = (x, s') := k1
   simp only [q1, q2]
  have ht : t = [] := by rw [if_neg (by omega)] at hnm; simpa using hnm
  by_cases h14 : op = 14
  ·subst h14
   have hcn : c = [] := by
    rcases hc0 with h | h
    ·omega
    ·exact h
   have hgn : g = false := by
    rcases hg16 with h | h
    ·omega
    ·exact h
   have hx : x = [] := by
    simp [exprs] at hxs
    exact List.eq_nil_of_length_eq_zero hxs.symm
   subst ht hcn hgn hx
   have hmid : midW 14 [] m = [⟨2, [], m⟩] := rfl
   rw [hmid] at hsk hN hB
   rw [if_pos (by omega)] at hsk hN hB
   simp only [List.length_cons, List.length_nil, exsW, List.length_append, if_true] at hN hB
   have hs1 : At s (kW (keyT 14) :: (⟨2, [], m⟩ :: (blkW b ++ R))) := by simpa [exsW] using hsk
   obtain ⟨e1, v1, v2⟩ := start kRepeat _ keyT_rep (by simp) hs1 (by simp)
   obtain ⟨f1, f2, f3, f4⟩ := v1.of (by simp [blkW])
   obtain ⟨s', k1, k2, k3⟩ := hblk b R hob (by omega) (by omega) hR _ f3 (by rw [f4, v2]; omega)
   refine ⟨s', ?_, k2, by rw [k3, f4, v2]; simp only [Sm.cnt, Sm.cnts]; omega⟩
   rw [e1, if_neg (by decide), if_neg (by decide), if_neg (by decide), if_pos rfl]
   unfold loopP
   have q1 : ((begun s).skip.of 2).1.n = m := f2
   have q2 : blockP (stmtP n) n ((d : Int) + 1) ((begun s).skip.of 2).2 = (b, s') := k1
   have q3 : ¬ (16 : Int) < m := by omega
   simp only [q1, if_neg q3, q2]
  by_cases h13 : op = 13
  ·subst h13
   have hm : m = 0 := by rcases hn14 with h | h <;> omega
   have hgn : g = false := by
    rcases hg16 with h | h
    ·omega
    ·exact h
   have hx : x.length = 1 := by simp [exprs] at hxs; omega
   subst ht hm hgn
   match x, hx with
   | [a], _ =>
   simp only [Ex.oks, Bool.and_true] at hoe
   have hmid : midW 13 [] 0 = [] := rfl
   rw [hmid] at hsk hN hB
   rw [if_pos (by omega)] at hsk hN hB
   have hexl : (exsW true [a]).length = a.words.length := by simp [exsW]
   rw [hexl] at hN hB
   simp only [List.length_append] at hN hB
   have hs1 : At s (kW (keyT 13) :: (a.words ++ (sW [123] :: (Sm.wordss b ++ [sW [125]] ++ ((if c.length = 0 then [] else kW kElse :: blkW c) ++ R))))) := by simpa [exsW, blkW] using hsk
   obtain ⟨e1, v1, v2⟩ := start kIf _ keyT_if (by simp) hs1 (by simp)
   obtain ⟨s1, w1, w2, w3⟩ := whole_again (N := n) hoe (v := sW [123]) (.inr rfl) (fol_sign (by decide +kernel) _ 5 0) (by omega) (by omega) _ v1
   have w1 : wholeP gLb n (begun s).skip = (a, s1) := w1
   have w2' : At s1 (blkW b ++ ((if c.length = 0 then [] else kW kElse :: blkW c) ++ R)) := by simpa [blkW] using w2
   have hblen : (blkW b).length < n := by omega
   obtain ⟨s2, k1, k2, k3⟩ := hblk b _ hob (by omega) (by omega) (by simp [hR]) s1 w2' (by rw [w3, v2]; omega)
   rw [e1, if_neg (by decide), if_neg (by decide), if_pos rfl]
   unfold choiceP
   simp only [w1, k1]
   by_cases hc00 : c.length = 0
   ·have hcn : c = [] := List.eq_nil_of_length_eq_zero hc00
    subst hcn
    have k2' : At s2 R := by simpa using k2
    refine ⟨s2, ?_, k2', by rw [k3, w3, v2]; simp only [Sm.cnt, Sm.cnts]; omega⟩
    cases R with
    | nil => exact absurd rfl hR
    | cons w R => rw [k2'.takes_no (hel w rfl)]
   ·rw [if_neg hc00] at k2 hN hB
    simp only [List.length_cons] at hN hB
    have k2' : At s2 (kW kElse :: (blkW c ++ R)) := by simpa using k2
    obtain ⟨u1, u2⟩ := k2'.skip (by simp [hR])
    obtain ⟨s3, z1, z2, z3⟩ := hblk c R hoc (by omega) (by omega) hR s2.skip u1 (by rw [u2, k3, w3, v2]; omega)
    refine ⟨s3, ?_, z2, by rw [z3, u2, k3, w3, v2]; simp only [Sm.cnt]; omega⟩
    rw [k2'.takes (.inl rfl) (by simp [kW])]
    simp only [z1]
  have h16 : op = 16 := by omega
  subst h16
  have hm : m = 0 := by rcases hn14 with h | h <;> omega
  have hcn : c = [] := by
   rcases hc0 with h | h
   ·omega
   ·exact h
  have hx : x.length = 1 := by simp [exprs] at hxs; omega
  subst ht hm hcn
  match x, hx with
  | [a], _ =>
  simp only [Ex.oks, Bool.and_true] at hoe
  have hmid : midW 16 [] 0 = [] := rfl
  rw [hmid] at hsk hN hB
  rw [if_neg (by omega), if_pos rfl] at hsk hN hB
  have hexl : (exsW true [a]).length = a.words.length := by simp [exsW]
  rw [hexl] at hN hB
  simp only [List.length_append] at hN hB
  simp only [txnOk, ne_eq, not_true, decide_false, Bool.false_or, Bool.and_eq_true, decide_eq_true_eq, List.all_eq_true] at htx
  have hs1 : At s (kW (keyT 16) :: (a.words ++ (sW [123] :: (Sm.wordss b ++ (sW [125] :: ((if g then [kW kCommit] else []) ++ (sW [59] :: R))))))) := by simpa [exsW, blkW] using hsk
  obtain ⟨e1, v1, v2⟩ := start kTxn _ keyT_txn (by simp) hs1 (by simp)
  obtain ⟨s1, w1, w2, w3⟩ := whole_again (N := n) hoe (v := sW [123]) (.inr rfl) (fol_sign (by decide +kernel) _ 5 0) (by omega) (by omega) _ v1
  have w1 : wholeP gLb n (begun s).skip = (a, s1) := w1
  obtain ⟨x1, x2⟩ := w2.wants (.inr rfl) (by simp)
  have hbw : (blkW b).length = (Sm.wordss b).length + 2 := by simp [blkW]
  obtain ⟨s2, k1, k2, k3⟩ := txnG_again (stm := stmtP n) (d := d + 1) b [] 8 _ htx.1 (by simp) hob (fun y hy => htx.2 y hy) (fun y hy => ih y (d + 1) (by rw [Sm.oks_all] at hob; exact List.all_eq_true.1 hob y hy) (by have := wordss_mem hy; omega) (by have := wordss_mem hy; omega)) _ x1 (by rw [x2, w3, v2]; omega)
  have k1 : txnG (stmtP n ((d : Int) + 1)) 8 [] (s1.wants gLb) = (b, s2) := k1
  obtain ⟨y1, y2⟩ := k2.wants (.inr rfl) (by simp)
  rw [e1, if_neg (by decide), if_neg (by decide), if_neg (by decide), if_neg (by decide)]
  unfold txnP
  simp only [w1, k1]
  cases g with
  | true =>
   have y1' : At (s2.wants gRb) (kW kCommit :: (sW [59] :: R)) := y1
   obtain ⟨z1, z2⟩ := y1'.skip (by simp)
   obtain ⟨u1, u2⟩ := z1.wants (.inr rfl) hR
   have ht1 := y1'.takes (l := [kCommit]) (.inl rfl) (by simp [kW])
   rw [ht1]
   have u2' : ((s2.wants gRb).skip.wants gSe).st = (s2.wants gRb).skip.st := u2
   have y2' : (s2.wants gRb).st = s2.st := y2
   exact ⟨_, rfl, u1, by rw [u2', z2, y2', k3, x2, w3, v2]; simp only [Sm.cnt, Sm.cnts]; omega⟩
  | false =>
   have y1' : At (s2.wants gRb) (sW [59] :: R) := y1
   obtain ⟨u1, u2⟩ := y1'.wants (.inr rfl) hR
   have ht1 := y1'.takes_no (l := [kCommit]) (by simp [sW])
   rw [ht1]
   have u2' : ((s2.wants gRb).wants gSe).st = (s2.wants gRb).st := u2
   have y2' : (s2.wants gRb).st = s2.st := y2
   exact ⟨_, rfl, u1, by rw [u2', y2', k3, x2, w3, v2]; simp only [Sm.cnt, Sm.cnts]; omega⟩
mutual
theorem cnt_flat : ∀ e : Sm, e.flat.length = e.cnt
 | .mk op s n x b c g => by
  have h1 := cnts_flats b
  have h2 := cnts_flats c
  simp only [Sm.flat, Sm.cnt, List.length_cons, List.length_append]
  omega
theorem cnts_flats : ∀ l : List Sm, (Sm.flats l).length = Sm.cnts l
 | [] => by simp [Sm.flats, Sm.cnts]
 | e :: l => by
  have h1 := cnt_flat e
  have h2 := cnts_flats l
  simp only [Sm.flats, Sm.cnts, List.length_append]
  omega
end
theorem blk_again {n : Nat} {l : List Sm} {R : List Wd} (ho : Sm.oks l 1 = true) (hn : (blkW l).length < n) (hB : (blkW l).length ≤ 4096) (hR : R ≠ []) {s : PS} (hs : At s (blkW l ++ R)) (hc : s.st + Sm.cnts l ≤ 256) : ∃ s', blockP (stmtP n) n 1 s = (l, s') ∧ At s' R ∧ s'.st = s.st + Sm.cnts l := by
 have hl := wordss_len l
 simp only [blkW, List.length_cons, List.length_append, List.length_nil] at hn hB
 exact blockP_again (d := 1) (by omega) hR ho (fun y hy => stmt_again n y 1 (by rw [Sm.oks_all] at ho; exact List.all_eq_true.1 ho y hy) (by have := wordss_mem hy; omega) (by have := wordss_mem hy; omega)) hs hc
theorem named_again {key : List UInt8} {k : Nat} (hk : k < 16) {nm : List UInt8} {R : List Wd} (hR : R ≠ []) {s : PS} (hs : At s (kW key :: ⟨1, nm, 0⟩ :: R)) : ∃ s', namedP key k s = (some nm, s') ∧ At s' R ∧ s'.st = s.st := by
 obtain ⟨v1, v2⟩ := hs.skip (by simp)
 obtain ⟨f1, f2, f3, f4⟩ := v1.of hR
 have f1 : (s.skip.of 1).1.s = nm := f1
 refine ⟨(s.skip.of 1).2, ?_, f3, by rw [← v2]; exact f4⟩
 unfold namedP
 have hk16 : ¬ k = 16 := by omega
 rw [hs.takes (.inl rfl) (by simp [kW])]
 simp only [if_neg hk16, f1]
theorem named_no {key : List UInt8} {k : Nat} {s : PS} {w : Wd} {R : List Wd} (hs : At s (w :: R)) (hn : ¬ ((w.kind = 4 ∨ w.kind = 5) ∧ w.s ∈ [key])) : namedP key k s = (none, s) := by
 unfold namedP
 rw [hs.takes_no hn]
theorem procs_again {n : Nat} : ∀ (ps acc : List (List UInt8 × List Sm)) (k : Nat) (w : Wd) (R : List Wd), ps.length < k → acc.length + ps.length ≤ 16 → ¬ ((w.kind = 4 ∨ w.kind = 5) ∧ w.s ∈ [kProc]) → (∀ x ∈ ps, Sm.oks x.2 1 = true) → (ps.flatMap procW).length < n → (ps.flatMap procW).length ≤ 4096 →
  ∀ s, At s (ps.flatMap procW ++ w :: R) → s.st + Sm.cnts (ps.map (·.2)).flatten ≤ 256 → ∃ s', procsG (stmtP n) n k acc s = (acc ++ ps, s') ∧ At s' (w :: R) ∧ s'.st = s.st + Sm.cnts (ps.map (·.2)).flatten := by
 intro ps
 induction ps with
 | nil =>
  intro acc k w R hk hl hw ho hn hB s hs hc
  obtain ⟨k', rfl⟩ : ∃ k', k = k' + 1 := ⟨k - 1, by simp at hk; omega⟩
  have hs' : At s (w :: R) := by simpa using hs
  refine ⟨s, ?_, hs', by simp [Sm.cnts]⟩
  unfold procsG
  rw [named_no hs' hw]
  simp
 | cons x ps ih =>
  intro acc k w R hk hl hw ho hn hB s hs hc
  simp only [List.length_cons] at hk hl
  obtain ⟨k', rfl⟩ : ∃ k', k = k' + 1 := ⟨k - 1, by omega⟩
  have happ : ∀ a b : List Sm, Sm.cnts (a ++ b) = Sm.cnts a + Sm.cnts b := fun a b => by
   rw [← cnts_flats, ← cnts_flats, ← cnts_flats, Sm.flats_append, List.length_append]
  simp only [List.map_cons, List.flatten_cons, happ] at hc ⊢
  simp only [List.flatMap_cons, List.length_append, procW, List.length_cons] at hn hB
  have hs' : At s (kW kProc :: ⟨1, x.1, 0⟩ :: (blkW x.2 ++ (ps.flatMap procW ++ w :: R))) := by simpa [procW] using hs
  obtain ⟨s1, h1, h2, h3⟩ := named_again (k := acc.length) (by omega) (by simp [blkW]) hs'
  obtain ⟨s2, b1, b2, b3⟩ := blk_again (n := n) (ho x (by simp)) (by omega) (by omega) (by simp) h2 (by omega)
  obtain ⟨s3, c1, c2, c3⟩ := ih (acc ++ [x]) k' w R (by omega) (by simp; omega) hw (fun y hy => ho y (by simp [hy])) (by omega) (by omega) s2 b2 (by omega)
  refine ⟨s3, ?_, c2, by omega⟩
  unfold procsG
  simp only [h1, b1]
  have : acc ++ x :: ps = acc ++ [x] ++ ps := by simp
  rw [this, ← c1]
theorem oracles_again {n : Nat} : ∀ (os acc : List (List UInt8 × Ex)) (k : Nat), os.length < k → acc.length + os.length ≤ 16 → (∀ x ∈ os, x.2.ok 8 = true) → (os.flatMap oraW).length < n → (os.flatMap oraW).length ≤ 4096 →
  ∀ s, At s (os.flatMap oraW ++ [endW]) → ∃ s', oraclesG n k acc s = (acc ++ os, s') ∧ At s' [endW] := by
 intro os
 induction os with
 | nil =>
  intro acc k hk hl ho hn hB s hs
  obtain ⟨k', rfl⟩ : ∃ k', k = k' + 1 := ⟨k - 1, by simp at hk; omega⟩
  have hs' : At s [endW] := by simpa using hs
  refine ⟨s, ?_, hs'⟩
  unfold oraclesG
  rw [named_no hs' (by simp [endW])]
  simp
 | cons x os ih =>
  intro acc k hk hl ho hn hB s hs
  simp only [List.length_cons] at hk hl
  obtain ⟨k', rfl⟩ : ∃ k', k = k' + 1 := ⟨k - 1, by omega⟩
  simp only [List.flatMap_cons, List.length_append, oraW, List.length_cons] at hn hB
  have hs' : At s (kW kOracle :: ⟨1, x.1, 0⟩ :: (sW [58] :: (x.2.words ++ (sW [59] :: (os.flatMap oraW ++ [endW]))))) := by simpa [oraW] using hs
  obtain ⟨s1, h1, h2, h3⟩ := named_again (k := acc.length) (by omega) (by simp) hs'
  obtain ⟨v1, v2⟩ := h2.wants (.inr rfl) (by simp)
  obtain ⟨s2, b1, b2, b3⟩ := whole_again (N := n) (ho x (by simp)) (v := sW [59]) (.inr rfl) (fol_sign (by decide +kernel) _ 5 0) (by omega) (by omega) _ v1
  obtain ⟨u1, u2⟩ := b2.wants (.inr rfl) (by simp)
  obtain ⟨s3, c1, c2⟩ := ih (acc ++ [x]) k' (by omega) (by simp; omega) (fun y hy => ho y (by simp [hy])) (by omega) (by omega) _ u1
  refine ⟨s3, ?_, c2⟩
  have b1 : wholeP gSe n (s1.wants gCl) = (x.2, s2) := b1
  unfold oraclesG
  simp only [h1, b1]
  have : acc ++ x :: os = acc ++ [x] ++ os := by simp
  rw [this, ← c1]
  rfl
theorem program_again {p : Pg} (hok : p.ok = true) {n : Nat} (hn : p.words.length < n) (hB : p.words.length ≤ 4096) {s : PS} (hs : At s (p.words ++ [endW])) (hst : s.st = 0) : ∃ s', programP n s = (p, s') ∧ s'.clean := by
 have h := hok
 simp only [Pg.ok, Bool.and_eq_true, decide_eq_true_eq, List.all_eq_true] at h
 obtain ⟨h1, h2, h256, h3, h4, h5, h6⟩ := h
 have happ : ∀ a b : List Sm, Sm.cnts (a ++ b) = Sm.cnts a + Sm.cnts b := fun a b => by
  rw [← cnts_flats, ← cnts_flats, ← cnts_flats, Sm.flats_append, List.length_append]
 have hcount : Sm.cnts (p.procs.map (·.2)).flatten + (Sm.cnts p.main + Sm.cnts p.recover) ≤ 256 := by
  have : p.flats.length = Sm.cnts p.parts.flatten := cnts_flats _
  rw [this] at h256
  simp only [Pg.parts, List.flatten_append, List.flatten_cons, List.flatten_nil, List.append_nil, happ] at h256
  omega
 simp only [Pg.words, List.length_append, List.length_cons] at hn hB
 obtain ⟨RW, hRW⟩ : ∃ RW : List Wd, RW = (if p.recover.length = 0 then [] else kW kRecover :: blkW p.recover) := ⟨_, rfl⟩
 have hw : p.words = p.procs.flatMap procW ++ (kW kMain :: blkW p.main) ++ RW ++ p.oracles.flatMap oraW := by rw [hRW]; rfl
 have hRWl : RW.length = (if p.recover.length = 0 then ([] : List Wd) else kW [114, 101, 99, 111, 118, 101, 114] :: blkW p.recover).length := by rw [hRW]
 rw [← hRWl] at hn hB
 rw [hw] at hs
 have hs' : At s (p.procs.flatMap procW ++ kW kMain :: (blkW p.main ++ (RW ++ (p.oracles.flatMap oraW ++ [endW])))) := by simpa using hs
 have hpl : p.procs.length ≤ (p.procs.flatMap procW).length := by
  generalize p.procs = l
  induction l with
  | nil => simp
  | cons x l ih => simp only [List.flatMap_cons, List.length_append, procW, List.length_cons]; omega
 have hol : p.oracles.length ≤ (p.oracles.flatMap oraW).length := by
  generalize p.oracles = l
  induction l with
  | nil => simp
  | cons x l ih => simp only [List.flatMap_cons, List.length_append, oraW, List.length_cons]; omega
 obtain ⟨s1, a1, a2, a3⟩ := procs_again (n := n) p.procs [] n (kW kMain) _ (by omega) (by simpa using h1) (by simp [kW]) (fun x hx => (h3 x hx).2) (by omega) (by omega) s hs' (by omega)
 obtain ⟨v1, v2⟩ := a2.wants (.inl rfl) (by simp [blkW])
 obtain ⟨s2, b1, b2, b3⟩ := blk_again (n := n) h5 (by omega) (by omega) (by simp) v1 (by rw [v2]; omega)
 have b1 : blockP (stmtP n) n 1 (s1.wants kMain) = (p.main, s2) := b1
 have hrec : ∃ s3, recP n s2 = (p.recover, s3) ∧ At s3 (p.oracles.flatMap oraW ++ [endW]) := by
  by_cases hr0 : p.recover.length = 0
  ·have hrn : p.recover = [] := List.eq_nil_of_length_eq_zero hr0
   rw [if_pos hr0] at hRW
   rw [hRW, List.nil_append] at b2
   refine ⟨s2, ?_, b2⟩
   unfold recP
   have hno : s2.takes [kRecover] = (none, s2) := by
    cases ho : p.oracles with
    | nil =>
     rw [ho] at b2
     have b2' : At s2 [endW] := by simpa using b2
     exact b2'.takes_no (by simp [endW])
    | cons x l =>
     rw [ho] at b2
     have b2' : At s2 (kW kOracle :: (⟨1, x.1, 0⟩ :: sW [58] :: (x.2.words ++ [sW [59]]) ++ (l.flatMap oraW ++ [endW]))) := by simpa [oraW] using b2
     exact b2'.takes_no (by simp [kW])
   rw [hno, hrn]
  ·rw [if_neg hr0] at hRW
   rw [hRW] at b2 hn hB
   simp only [List.length_cons] at hn hB
   have b2' : At s2 (kW kRecover :: (blkW p.recover ++ (p.oracles.flatMap oraW ++ [endW]))) := by simpa using b2
   obtain ⟨u1, u2⟩ := b2'.skip (by simp)
   obtain ⟨s3, c1, c2, c3⟩ := blk_again (n := n) h6 (by omega) (by omega) (by simp) u1 (by rw [u2, b3, v2]; omega)
   refine ⟨s3, ?_, c2⟩
   unfold recP
   rw [b2'.takes (.inl rfl) (by simp [kW])]
   exact c1
 obtain ⟨s3, c1, c2⟩ := hrec
 obtain ⟨s4, d1, d2⟩ := oracles_again (n := n) p.oracles [] n (by omega) (by simpa using h2) (fun x hx => (h4 x hx).2) (by omega) (by omega) s3 c2
 refine ⟨(s4.of 0).2, ?_, ?_⟩
 ·unfold programP
  simp only [a1, b1, c1, d1, List.nil_append]
 ·have hk : s4.head.kind = 0 := d2.head.1
  unfold PS.of
  rw [if_neg (by simp [hk])]
  unfold PS.skip
  split
  ·exact d2.clean
  ·exact d2.clean
theorem text_words {t : List UInt8} {ws : List Wd} (h : Sc t ws) (hl : t.length ≤ 4096) : ∃ L : List Wx, wordsS t = (wrows L, 0, 0) ∧ L.map wdOf = ws ++ [endW] ∧ PS.good ⟨L, 0, 0, 0, false⟩ ∧ ws.length ≤ 4096 := by
 obtain ⟨L, h1, h2⟩ := words_of_sf h hl
 obtain ⟨l, g1, g2⟩ := words_good t (by rw [h1])
 rw [h1] at g1
 have g1 : wrows L = wrows l := g1
 have hlen : L.length = l.length := by
  have := congrArg List.length g1
  simpa [wrows] using this
 have g4 := g2.len
 simp only at g4
 have hL := congrArg List.length h2
 simp only [List.length_map, List.length_append, List.length_singleton] at hL
 refine ⟨L, h1, h2, ⟨?_, fun hne => ?_, fun hc => absurd ⟨rfl, rfl⟩ hc, by show L.length ≤ 4097; omega⟩, by omega⟩
 ·intro h0
  have h0 : L = [] := h0
  rw [h0] at hL
  simp at hL
 ·have e : (L.getLast hne).kind = (wdOf (L.getLast hne)).kind := rfl
  have : wdOf (L.getLast hne) = endW := by
   have hm : (L.map wdOf).getLast (by simpa using hne) = wdOf (L.getLast hne) := List.getLast_map ..
   rw [← hm]
   simp [h2]
  show (L.getLast hne).kind = 0
  rw [e, this]
  rfl
end Go.AM.Spec
