/-
  A program that is an argument, as data: by its types' shapes.
-/
import Derived.Test.YthboieenfnpeeaaTreeD
import Derived.Test.YthboieenfnpeeaaOpn
namespace Go.AM.Spec
set_option linter.unusedVariables false
set_option linter.unusedSimpArgs false

/-- Fits an int64. -/
def Fit (n : Int) : Prop := (Lit.int .i64 n).wf = true
/-- Is a list no longer than any may be? -/
def Len (n : Nat) : Prop := n ≤ maxLen

mutual
def Ex.fit : Ex → Prop
  | .mk op n s x => Fit op ∧ Fit n ∧ Len s.length ∧ Len x.length ∧ Ex.fits x
def Ex.fits : List Ex → Prop
  | [] => True
  | e :: l => e.fit ∧ Ex.fits l
end
mutual
def Sm.fit : Sm → Prop
  | .mk op s n e b c _ => Fit op ∧ Len s.length ∧ Fit n ∧ (Len e.length ∧ Ex.fits e) ∧ (Len b.length ∧ Sm.fits b) ∧ (Len c.length ∧ Sm.fits c)
def Sm.fits : List Sm → Prop
  | [] => True
  | e :: l => e.fit ∧ Sm.fits l
end
structure Pg.fit (p : Pg) : Prop where
  pl : Len p.procs.length
  ps : ∀ x ∈ p.procs, Len x.1.length ∧ Len x.2.length ∧ Sm.fits x.2
  ml : Len p.main.length
  ms : Sm.fits p.main
  rl : Len p.recover.length
  rs : Sm.fits p.recover
  ol : Len p.oracles.length
  os : ∀ x ∈ p.oracles, Len x.1.length ∧ x.2.fit

theorem Ex.fits_mem {l : List Ex} : Ex.fits l ↔ ∀ e ∈ l, e.fit := by
  induction l with
  | nil => simp [Ex.fits]
  | cons e l ih => simp [Ex.fits, ih]
theorem Sm.fits_mem {l : List Sm} : Sm.fits l ↔ ∀ e ∈ l, e.fit := by
  induction l with
  | nil => simp [Sm.fits]
  | cons e l ih => simp [Sm.fits, ih]

def TyL (P : Program) : List TypeId → List (List V) → Prop
  | [], [] => True
  | t :: ts, p :: ps => Ty P t p ∧ TyL P ts ps
  | _, _ => False

section
variable {P : Program}

theorem TyL_of {fs : List Field} {parts : List (List V)} (hl : parts.length = fs.length) (hp : ∀ (j : Nat) (f : Field) (p : List V), fs[j]? = some f → parts[j]? = some p → Ty P f.type p) : TyL P (fs.map (·.type)) parts := by
  induction fs generalizing parts with
  | nil => cases parts with
    | nil => trivial
    | cons => simp at hl
  | cons f r ih => cases parts with
    | nil => simp at hl
    | cons p q => exact ⟨hp 0 f p rfl rfl, ih (by simpa using hl) (fun j g x h1 h2 => hp (j + 1) g x (by simpa using h1) (by simpa using h2))⟩

theorem Ty_inv {t : TypeId} {vs : List V} (h : Ty P t vs) : match P.underlying t with
    | some .bool => ∃ b, vs = [.bool b]
    | some (.int k) => ∃ n, vs = [.int k n] ∧ (Lit.int k n).wf = true
    | some .string => ∃ s, vs = [.str s] ∧ Len s.length
    | some (.slice e) => ∃ rows, vs = [.sl (P.cellsOf e) rows] ∧ Len rows.length ∧ ∀ r ∈ rows, Ty P e r
    | some (.struct fs) => ∃ parts, vs = parts.flatten ∧ TyL P (fs.toList.map (·.type)) parts
    | _ => False := by
  cases h with
  | bool h b => rw [h]; exact ⟨b, rfl⟩
  | int h n hw => rw [h]; exact ⟨n, rfl, hw⟩
  | str h s hs => rw [h]; exact ⟨s, rfl, hs⟩
  | sl h rows hl hr => rw [h]; exact ⟨rows, rfl, hl, hr⟩
  | struct h parts hl hp => rw [h]; exact ⟨parts, rfl, TyL_of (by simpa using hl) (fun j f p h1 h2 => hp j f p (by rw [← Array.getElem?_toList]; exact h1) h2)⟩

theorem Ty_int_of {t : TypeId} {k : IntKind} {vs : List V} (h : Ty P t vs) (ht : P.underlying t = some (.int k)) : ∃ n, vs = [.int k n] ∧ (Lit.int k n).wf = true := by
  have := Ty_inv h; rw [ht] at this; exact this
theorem Ty_bool_of {t : TypeId} {vs : List V} (h : Ty P t vs) (ht : P.underlying t = some .bool) : ∃ b, vs = [.bool b] := by
  have := Ty_inv h; rw [ht] at this; exact this
theorem Ty_str_of {t : TypeId} {vs : List V} (h : Ty P t vs) (ht : P.underlying t = some .string) : ∃ s, vs = [.str s] ∧ Len s.length := by
  have := Ty_inv h; rw [ht] at this; exact this
theorem Ty_sl_of {t e : TypeId} {vs : List V} (h : Ty P t vs) (ht : P.underlying t = some (.slice e)) : ∃ rows, vs = [.sl (P.cellsOf e) rows] ∧ Len rows.length ∧ ∀ r ∈ rows, Ty P e r := by
  have := Ty_inv h; rw [ht] at this; exact this

theorem TyL_2 {a b : TypeId} {parts : List (List V)} (h : TyL P [a, b] parts) : ∃ p q, parts = [p, q] ∧ Ty P a p ∧ Ty P b q := by
  match parts, h with
  | [p, q], ⟨h1, h2, _⟩ => exact ⟨p, q, rfl, h1, h2⟩
theorem TyL_4 {a b c d : TypeId} {parts : List (List V)} (h : TyL P [a, b, c, d] parts) : ∃ p q r s, parts = [p, q, r, s] ∧ Ty P a p ∧ Ty P b q ∧ Ty P c r ∧ Ty P d s := by
  match parts, h with
  | [p, q, r, s], ⟨h1, h2, h3, h4, _⟩ => exact ⟨p, q, r, s, rfl, h1, h2, h3, h4⟩
theorem TyL_7 {a b c d e f g : TypeId} {parts : List (List V)} (h : TyL P [a, b, c, d, e, f, g] parts) : ∃ p q r s t u v, parts = [p, q, r, s, t, u, v] ∧ Ty P a p ∧ Ty P b q ∧ Ty P c r ∧ Ty P d s ∧ Ty P e t ∧ Ty P f u ∧ Ty P g v := by
  match parts, h with
  | [p, q, r, s, t, u, v], ⟨h1, h2, h3, h4, h5, h6, h7, _⟩ => exact ⟨p, q, r, s, t, u, v, rfl, h1, h2, h3, h4, h5, h6, h7⟩

theorem ex_list {rows : List (List V)} (h : ∀ r ∈ rows, ∃ e : Ex, r = e.cells ∧ e.fit) : ∃ l : List Ex, rows = Ex.rows l ∧ Ex.fits l ∧ l.length = rows.length := by
  induction rows with
  | nil => exact ⟨[], rfl, trivial, rfl⟩
  | cons r rows ih =>
    obtain ⟨e, rfl, he⟩ := h r (by simp)
    obtain ⟨l, rfl, hl, hn⟩ := ih (fun r hr => h r (by simp [hr]))
    exact ⟨e :: l, rfl, ⟨he, hl⟩, by simp [hn]⟩
theorem sm_list {rows : List (List V)} (h : ∀ r ∈ rows, ∃ e : Sm, r = e.cells ∧ e.fit) : ∃ l : List Sm, rows = Sm.rows l ∧ Sm.fits l ∧ l.length = rows.length := by
  induction rows with
  | nil => exact ⟨[], rfl, trivial, rfl⟩
  | cons r rows ih =>
    obtain ⟨e, rfl, he⟩ := h r (by simp)
    obtain ⟨l, rfl, hl, hn⟩ := ih (fun r hr => h r (by simp [hr]))
    exact ⟨e :: l, rfl, ⟨he, hl⟩, by simp [hn]⟩

/-- The types of programs, by number. -/
structure TreeTys (P : Program) (tG tPs tSs tOs tP tO tS tEs tE tI tN tB tT : TypeId) : Prop where
  g : ∃ fs, P.underlying tG = some (.struct fs) ∧ fs.toList.map (·.type) = [tPs, tSs, tSs, tOs]
  ps : P.underlying tPs = some (.slice tP)
  ss : P.underlying tSs = some (.slice tS)
  os : P.underlying tOs = some (.slice tO)
  es : P.underlying tEs = some (.slice tE)
  p : ∃ fs, P.underlying tP = some (.struct fs) ∧ fs.toList.map (·.type) = [tT, tSs]
  o : ∃ fs, P.underlying tO = some (.struct fs) ∧ fs.toList.map (·.type) = [tT, tE]
  s : ∃ fs, P.underlying tS = some (.struct fs) ∧ fs.toList.map (·.type) = [tI, tT, tN, tEs, tSs, tSs, tB]
  e : ∃ fs, P.underlying tE = some (.struct fs) ∧ fs.toList.map (·.type) = [tI, tN, tT, tEs]
  i : P.underlying tI = some (.int .i64)
  n : P.underlying tN = some (.int .i64)
  b : P.underlying tB = some .bool
  t : P.underlying tT = some .string
  cp : P.cellsOf tP = 2
  cs : P.cellsOf tS = 7
  co : P.cellsOf tO = 5
  ce : P.cellsOf tE = 4

variable {tG tPs tSs tOs tP tO tS tEs tE tI tN tB tT : TypeId} (T : TreeTys P tG tPs tSs tOs tP tO tS tEs tE tI tN tB tT)
include T

/-- An expression's cells; a list of expressions. -/
theorem ex_of {t : TypeId} {vs : List V} (h : Ty P t vs) : (t = tE → ∃ e : Ex, vs = e.cells ∧ e.fit) ∧ (t = tEs → ∃ l : List Ex, vs = [.sl 4 (Ex.rows l)] ∧ Len l.length ∧ Ex.fits l) := by
  induction h with
  | bool h b =>
    obtain ⟨fs, hu, _⟩ := T.e
    exact ⟨fun ht => (by subst ht; rw [hu] at h; cases h), fun ht => (by subst ht; rw [T.es] at h; cases h)⟩
  | int h n hw =>
    obtain ⟨fs, hu, _⟩ := T.e
    exact ⟨fun ht => (by subst ht; rw [hu] at h; cases h), fun ht => (by subst ht; rw [T.es] at h; cases h)⟩
  | str h s hs =>
    obtain ⟨fs, hu, _⟩ := T.e
    exact ⟨fun ht => (by subst ht; rw [hu] at h; cases h), fun ht => (by subst ht; rw [T.es] at h; cases h)⟩
  | sl h rows hl hr ih =>
    obtain ⟨fs, hu, _⟩ := T.e
    refine ⟨fun ht => (by subst ht; rw [hu] at h; cases h), fun ht => ?_⟩
    subst ht
    rw [T.es] at h
    cases h
    obtain ⟨l, rfl, hf, hn⟩ := ex_list (fun r hr => (ih r hr).1 rfl)
    exact ⟨l, by rw [T.ce], by rw [hn]; exact hl, hf⟩
  | @struct t' gs h parts hl hp ih =>
    obtain ⟨fs, hu, hfs⟩ := T.e
    refine ⟨fun ht => ?_, fun ht => (by subst ht; rw [T.es] at h; cases h)⟩
    subst ht
    obtain rfl : fs = gs := by
      have := hu.symm.trans h
      simpa using this
    have hL := TyL_of (by rw [hl, Array.length_toList]) (fun j f p h1 h2 => hp j f p (by rw [← Array.getElem?_toList]; exact h1) h2)
    rw [hfs] at hL
    obtain ⟨p0, p1, p2, p3, rfl, h0, h1, h2, h3⟩ := TyL_4 hL
    obtain ⟨op, rfl, w0⟩ := Ty_int_of h0 T.i
    obtain ⟨n, rfl, w1⟩ := Ty_int_of h1 T.n
    obtain ⟨s, rfl, w2⟩ := Ty_str_of h2 T.t
    have hf3 : ∃ f : Field, fs[3]? = some f ∧ f.type = tEs := by
      have : (fs.toList.map (·.type))[3]? = some tEs := by rw [hfs]; rfl
      rw [List.getElem?_map, Option.map_eq_some_iff] at this
      obtain ⟨f, hf, hf'⟩ := this
      exact ⟨f, by rw [← Array.getElem?_toList]; exact hf, hf'⟩
    obtain ⟨f, hf, hft⟩ := hf3
    obtain ⟨l, rfl, hll, hlf⟩ := (ih 3 f p3 hf rfl).2 hft
    exact ⟨.mk op n s l, rfl, w0, w1, w2, hll, hlf⟩

/-- A statement's cells; a list of statements. -/
theorem sm_of {t : TypeId} {vs : List V} (h : Ty P t vs) : (t = tS → ∃ e : Sm, vs = e.cells ∧ e.fit) ∧ (t = tSs → ∃ l : List Sm, vs = [.sl 7 (Sm.rows l)] ∧ Len l.length ∧ Sm.fits l) := by
  induction h with
  | bool h b =>
    obtain ⟨fs, hu, _⟩ := T.s
    exact ⟨fun ht => (by subst ht; rw [hu] at h; cases h), fun ht => (by subst ht; rw [T.ss] at h; cases h)⟩
  | int h n hw =>
    obtain ⟨fs, hu, _⟩ := T.s
    exact ⟨fun ht => (by subst ht; rw [hu] at h; cases h), fun ht => (by subst ht; rw [T.ss] at h; cases h)⟩
  | str h s hs =>
    obtain ⟨fs, hu, _⟩ := T.s
    exact ⟨fun ht => (by subst ht; rw [hu] at h; cases h), fun ht => (by subst ht; rw [T.ss] at h; cases h)⟩
  | sl h rows hl hr ih =>
    obtain ⟨fs, hu, _⟩ := T.s
    refine ⟨fun ht => (by subst ht; rw [hu] at h; cases h), fun ht => ?_⟩
    subst ht
    rw [T.ss] at h
    cases h
    obtain ⟨l, rfl, hf, hn⟩ := sm_list (fun r hr => (ih r hr).1 rfl)
    exact ⟨l, by rw [T.cs], by rw [hn]; exact hl, hf⟩
  | @struct t' gs h parts hl hp ih =>
    obtain ⟨fs, hu, hfs⟩ := T.s
    refine ⟨fun ht => ?_, fun ht => (by subst ht; rw [T.ss] at h; cases h)⟩
    subst ht
    obtain rfl : fs = gs := by
      have := hu.symm.trans h
      simpa using this
    have hL := TyL_of (by rw [hl, Array.length_toList]) (fun j f p h1 h2 => hp j f p (by rw [← Array.getElem?_toList]; exact h1) h2)
    rw [hfs] at hL
    obtain ⟨p0, p1, p2, p3, p4, p5, p6, rfl, h0, h1, h2, h3, h4, h5, h6⟩ := TyL_7 hL
    obtain ⟨op, rfl, w0⟩ := Ty_int_of h0 T.i
    obtain ⟨s, rfl, w1⟩ := Ty_str_of h1 T.t
    obtain ⟨n, rfl, w2⟩ := Ty_int_of h2 T.n
    obtain ⟨e, rfl, w3⟩ := (ex_of T h3).2 rfl
    obtain ⟨k, rfl⟩ := Ty_bool_of h6 T.b
    have hf : ∀ i, fs.toList.map (·.type) = [tI, tT, tN, tEs, tSs, tSs, tB] → i = 4 ∨ i = 5 → ∃ f : Field, fs[i]? = some f ∧ f.type = tSs := by
      intro i hfs hi
      have : (fs.toList.map (·.type))[i]? = some tSs := by rw [hfs]; rcases hi with rfl | rfl <;> rfl
      rw [List.getElem?_map, Option.map_eq_some_iff] at this
      obtain ⟨f, hf, hf'⟩ := this
      exact ⟨f, by rw [← Array.getElem?_toList]; exact hf, hf'⟩
    obtain ⟨f4, hf4, ht4⟩ := hf 4 hfs (.inl rfl)
    obtain ⟨f5, hf5, ht5⟩ := hf 5 hfs (.inr rfl)
    obtain ⟨b, rfl, w4⟩ := (ih 4 f4 p4 hf4 rfl).2 ht4
    obtain ⟨c, rfl, w5⟩ := (ih 5 f5 p5 hf5 rfl).2 ht5
    exact ⟨.mk op s n e b c k, rfl, w0, w1, w2, w3, w4, w5⟩

theorem pr_list {prows : List (List V)} (hpr : ∀ r ∈ prows, Ty P tP r) : ∃ ps : List (List UInt8 × List Sm), prows = ps.map (fun x => [.str x.1, .sl 7 (Sm.rows x.2)]) ∧ ∀ x ∈ ps, Len x.1.length ∧ Len x.2.length ∧ Sm.fits x.2 := by
    induction prows with
    | nil => exact ⟨[], rfl, by simp⟩
    | cons x l ih =>
      obtain ⟨ps, rfl, hps⟩ := ih (fun r hr => hpr r (by simp [hr]))
      obtain ⟨gs, gu, ggs⟩ := T.p
      have gi := Ty_inv (hpr x (by simp))
      rw [gu] at gi
      obtain ⟨parts, rfl, hL⟩ := gi
      rw [ggs] at hL
      obtain ⟨q0, q1, rfl, k0, k1⟩ := TyL_2 hL
      obtain ⟨s, rfl, w0⟩ := Ty_str_of k0 T.t
      obtain ⟨b, rfl, w1, w2⟩ := (sm_of T k1).2 rfl
      refine ⟨(s, b) :: ps, rfl, ?_⟩
      intro x hx
      rcases List.mem_cons.1 hx with rfl | hx
      · exact ⟨w0, w1, w2⟩
      · exact hps x hx

theorem or_list {orows : List (List V)} (hor : ∀ r ∈ orows, Ty P tO r) : ∃ os : List (List UInt8 × Ex), orows = os.map (fun x => .str x.1 :: x.2.cells) ∧ ∀ x ∈ os, Len x.1.length ∧ x.2.fit := by
    induction orows with
    | nil => exact ⟨[], rfl, by simp⟩
    | cons x l ih =>
      obtain ⟨os, rfl, hos⟩ := ih (fun r hr => hor r (by simp [hr]))
      obtain ⟨gs, gu, ggs⟩ := T.o
      have gi := Ty_inv (hor x (by simp))
      rw [gu] at gi
      obtain ⟨parts, rfl, hL⟩ := gi
      rw [ggs] at hL
      obtain ⟨q0, q1, rfl, k0, k1⟩ := TyL_2 hL
      obtain ⟨s, rfl, w0⟩ := Ty_str_of k0 T.t
      obtain ⟨e, rfl, w1⟩ := (ex_of T k1).1 rfl
      refine ⟨(s, e) :: os, by simp, ?_⟩
      intro x hx
      rcases List.mem_cons.1 hx with rfl | hx
      · exact ⟨w0, w1⟩
      · exact hos x hx

theorem pg_of {vs : List V} (h : Ty P tG vs) : ∃ p : Pg, vs = p.cells ∧ p.fit := by
  obtain ⟨fs, hu, hfs⟩ := T.g
  have hi := Ty_inv h
  rw [hu] at hi
  obtain ⟨parts, rfl, hL⟩ := hi
  rw [hfs] at hL
  obtain ⟨p0, p1, p2, p3, rfl, h0, h1, h2, h3⟩ := TyL_4 hL
  obtain ⟨m, rfl, m1, m2⟩ := (sm_of T h1).2 rfl
  obtain ⟨r, rfl, r1, r2⟩ := (sm_of T h2).2 rfl
  obtain ⟨prows, rfl, pl, hpr⟩ := Ty_sl_of h0 T.ps
  obtain ⟨orows, rfl, ol, hor⟩ := Ty_sl_of h3 T.os
  have hps := pr_list T hpr
  have hos := or_list T hor
  obtain ⟨ps, rfl, hps⟩ := hps
  obtain ⟨os, rfl, hos⟩ := hos
  refine ⟨⟨ps, m, r, os⟩, ?_, ⟨by simpa using pl, hps, m1, m2, r1, r2, by simpa using ol, hos⟩⟩
  rw [T.cp, T.co]
  simp [Pg.cells, Pg.pcells, Pg.ocells]

end
end Go.AM.Spec
