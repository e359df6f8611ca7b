/-
  What it means that plain data stand for the model's values in a world: who may write which cells, what is kept, and how these relations go on from world to world.
-/
import Derived.Test.YtbgblfbbeamleaaGreatDoorAm
import Derived.Below
import Derived.Laws.Cells
import Derived.Laws.Append
set_option linter.unusedVariables false
namespace Go.AM

/-- Who owns cells: a block of ours; a cell, a slot or an operand that holds an own list (its tail); a caller ('fr'). -/
inductive Key where
  | blk (i : Nat)
  | cell (i j : Nat)
  | slot (s : Nat)
  | arg (j : Nat)
  | fr (n : Nat)
  deriving DecidableEq

/-- An owner of this activation; 'fr' are those of its callers. -/
def Key.mine : Key → Bool
  | .fr _ => false
  | _ => true

abbrev Own := Key → Option (Nat × Nat)
/-- Where a block of ours lies: cells from a place on; or a record of a loop over a function. -/
inductive Place where
  | blk (b base : Nat)
  | lp (l : Nat)
  deriving DecidableEq
abbrev Places := List Place

def Own.put (ρ : Own) (k : Key) (v : Option (Nat × Nat)) : Own := fun k' => if k' = k then v else ρ k'
@[simp] theorem Own.put_same (ρ : Own) (k : Key) (v) : Own.put ρ k v k = v := by simp [Own.put]
theorem Own.put_other (ρ : Own) {k k' : Key} (v) (h : k' ≠ k) : Own.put ρ k v k' = ρ k' := by simp [Own.put, h]

/-- The cells that may be written: of a block from a place on. -/
def foot (ρ : Own) (b o : Nat) : Prop := ∃ k n, ρ k = some (b, n) ∧ n ≤ o

/-- The cells that this activation may write. -/
def afoot (ρ : Own) (b o : Nat) : Prop := ∃ k n, k.mine = true ∧ ρ k = some (b, n) ∧ n ≤ o

theorem afoot_foot {ρ : Own} {b o : Nat} (h : afoot ρ b o) : foot ρ b o := by
  obtain ⟨k, n, _, h1, h2⟩ := h; exact ⟨k, n, h1, h2⟩

/-- No block has two owners; each is there. -/
structure Sep (ρ : Own) (w : World) : Prop where
  one : ∀ k k' b n n', ρ k = some (b, n) → ρ k' = some (b, n') → k = k'
  here : ∀ k b n, ρ k = some (b, n) → b < w.heap.size

/-! ### Worlds -/

def ObjKp (f : Nat → Prop) (x y : Option Obj) : Prop :=
  match x with
  | some (.cells c t fr) => ∃ c' fr', y = some (.cells c' t fr') ∧ c'.size = c.size ∧ (∀ o, ¬ f o → c'[o]? = c[o]?) ∧ ((∀ o, ¬ f o) → fr' = fr)
  | some (.loop r) => ∃ r', y = some (.loop r') ∧ (¬ f 0 → r' = r)
  | some (.map es n) => ∃ es' n', y = some (.map es' n') ∧ (¬ f 0 → es' = es ∧ n' = n)
  | _ => y = x

/-- Outside the cells F nothing that there was has turned. -/
structure Kp (F : Nat → Nat → Prop) (w w' : World) : Prop where
  os : w'.os = w.os
  tape : w'.tape = w.tape
  output : w'.output = w.output
  size : w.heap.size ≤ w'.heap.size
  obj : ∀ b, b < w.heap.size → ObjKp (F b) w.heap[b]? w'.heap[b]?

theorem ObjKp.refl (f : Nat → Prop) (x : Option Obj) : ObjKp f x x := by
  unfold ObjKp
  split
  · exact ⟨_, _, rfl, rfl, fun _ _ => rfl, fun _ => rfl⟩
  · exact ⟨_, rfl, fun _ => rfl⟩
  · exact ⟨_, _, rfl, fun _ => ⟨rfl, rfl⟩⟩
  · rfl

theorem ObjKp.trans {f g : Nat → Prop} {x y z : Option Obj} (h : ObjKp f x y) (h' : ObjKp g y z) (hg : ∀ o, g o → f o) : ObjKp f x z := by
  unfold ObjKp at h ⊢
  split
  · rename_i c t fr
    obtain ⟨c', fr', rfl, hs, hc, hm⟩ := h
    obtain ⟨c'', fr'', rfl, hs', hc', hm'⟩ := h'
    exact ⟨c'', fr'', rfl, hs'.trans hs, fun o ho => (hc' o (fun hh => ho (hg o hh))).trans (hc o ho), fun ho => (hm' (fun o hh => ho o (hg o hh))).trans (hm ho)⟩
  · rename_i r
    obtain ⟨r', rfl, h1⟩ := h
    obtain ⟨r'', rfl, h2⟩ := h'
    exact ⟨r'', rfl, fun hf => (h2 (fun hh => hf (hg 0 hh))).trans (h1 hf)⟩
  · rename_i es n
    obtain ⟨es', n', rfl, h1⟩ := h
    obtain ⟨es'', n'', rfl, h2⟩ := h'
    exact ⟨es'', n'', rfl, fun hf => ⟨(h2 (fun hh => hf (hg 0 hh))).1.trans (h1 hf).1, (h2 (fun hh => hf (hg 0 hh))).2.trans (h1 hf).2⟩⟩
  · rename_i hne hne' hne''
    have hx : y = x := by
      split at h
      · rename_i c t fr; exact absurd rfl (hne c t fr)
      · rename_i r; exact absurd rfl (hne' r)
      · rename_i es n; exact absurd rfl (hne'' es n)
      · exact h
    subst hx
    unfold ObjKp at h'
    split at h'
    · rename_i c t fr; exact absurd rfl (hne c t fr)
    · rename_i r; exact absurd rfl (hne' r)
    · rename_i es n; exact absurd rfl (hne'' es n)
    · exact h'

theorem Kp.refl (F : Nat → Nat → Prop) (w : World) : Kp F w w := ⟨rfl, rfl, rfl, Nat.le_refl _, fun _ _ => .refl _ _⟩

theorem Kp.trans {F G : Nat → Nat → Prop} {w w1 w2 : World} (h : Kp F w w1) (h' : Kp G w1 w2) (hg : ∀ b o, b < w.heap.size → G b o → F b o) : Kp F w w2 :=
  ⟨h'.os.trans h.os, h'.tape.trans h.tape, h'.output.trans h.output, Nat.le_trans h.size h'.size,
    fun b hb => (h.obj b hb).trans (h'.obj b (Nat.lt_of_lt_of_le hb h.size)) (fun o ho => hg b o hb ho)⟩

theorem Kp.mono {F G : Nat → Nat → Prop} {w w' : World} (h : Kp F w w') (hg : ∀ b o, F b o → G b o) : Kp G w w' :=
  (Kp.refl G w).trans h (fun b o _ => hg b o)

theorem cell_obj {w : World} {b o : Nat} {x : Value} (h : w.cell? ⟨b, o, none⟩ = some x) : ∃ c t fr, w.heap[b]? = some (.cells c t fr) ∧ c[o]? = some x := by
  unfold World.cell? at h
  split at h
  · rename_i c t fr hb
    exact ⟨c, t, fr, hb, by simpa using h⟩
  · cases h

theorem cell_of_obj {w : World} {b o : Nat} {c : Array Value} {t : TypeId} {fr : Nat × Nat} (h : w.heap[b]? = some (.cells c t fr)) : w.cell? ⟨b, o, none⟩ = c[o]? := by
  unfold World.cell?; simp [h]

theorem lt_of_obj {w : World} {b : Nat} {x : Obj} (h : w.heap[b]? = some x) : b < w.heap.size := by
  rcases Nat.lt_or_ge b w.heap.size with h' | h'
  · exact h'
  · simp [Array.getElem?_eq_none h'] at h

theorem Kp.obj_cells {F : Nat → Nat → Prop} {w w' : World} (h : Kp F w w') {b : Nat} {c : Array Value} {t : TypeId} {fr : Nat × Nat} (hb : w.heap[b]? = some (.cells c t fr)) :
    ∃ c' fr', w'.heap[b]? = some (.cells c' t fr') ∧ c'.size = c.size ∧ (∀ o, ¬ F b o → c'[o]? = c[o]?) ∧ ((∀ o, ¬ F b o) → fr' = fr) := by
  have := h.obj b (lt_of_obj hb)
  rw [hb] at this
  exact this

theorem Kp.obj_loop {F : Nat → Nat → Prop} {w w' : World} (h : Kp F w w') {b : Nat} {r : Loop} (hb : w.heap[b]? = some (.loop r)) : ∃ r', w'.heap[b]? = some (.loop r') ∧ (¬ F b 0 → r' = r) := by
  have := h.obj b (lt_of_obj hb)
  rw [hb] at this
  exact this

theorem Kp.obj_deferred {F : Nat → Nat → Prop} {w w' : World} (h : Kp F w w') {b : Nat} {d : Option (List Deferred)} (hb : w.heap[b]? = some (.deferred d)) : w'.heap[b]? = some (.deferred d) := by
  have := h.obj b (lt_of_obj hb)
  rw [hb] at this
  exact this

theorem Kp.cell {F : Nat → Nat → Prop} {w w' : World} (h : Kp F w w') {b o : Nat} {x : Value} (hc : w.cell? ⟨b, o, none⟩ = some x) (hf : ¬ F b o) : w'.cell? ⟨b, o, none⟩ = some x := by
  obtain ⟨c, t, fr, hb, ho⟩ := cell_obj hc
  obtain ⟨c', _, hb', _, hc', _⟩ := h.obj_cells hb
  rw [cell_of_obj hb', hc' o hf, ho]

/-- The marks of a block: which cells nobody may write any more. -/
def Marks0 (b : Nat) (w w' : World) : Prop := ∀ o, w'.frozen? ⟨b, o, none⟩ = w.frozen? ⟨b, o, none⟩

theorem Marks0.of_eq {b : Nat} {w w' : World} (h : w'.heap[b]? = w.heap[b]?) : Marks0 b w w' := by
  intro o
  unfold World.frozen?
  simp [h]

theorem Marks0.of_cells {b : Nat} {w w' : World} {c c' : Array Value} {t t' : TypeId} {fr : Nat × Nat} (h : w.heap[b]? = some (.cells c t fr)) (h' : w'.heap[b]? = some (.cells c' t' fr)) : Marks0 b w w' := by
  intro o
  unfold World.frozen?
  simp [h, h']

theorem Kp.marks {F : Nat → Nat → Prop} {w w' : World} (h : Kp F w w') {b : Nat} (hb : b < w.heap.size) (hF : ∀ o, ¬ F b o) : Marks0 b w w' := by
  have := h.obj b hb
  unfold ObjKp at this
  split at this
  · rename_i c t fr hc
    obtain ⟨c', fr', h1, _, _, h2⟩ := this
    rw [h2 hF] at h1
    exact .of_cells hc h1
  · rename_i r hr
    obtain ⟨r', h1, h2⟩ := this
    rw [h2 (hF 0), ← hr] at h1
    exact .of_eq h1
  · rename_i es n hr
    obtain ⟨es', n', h1, h2⟩ := this
    rw [(h2 (hF 0)).1, (h2 (hF 0)).2, ← hr] at h1
    exact .of_eq h1
  · exact .of_eq this

/-- Where nothing may turn, nothing does. -/
theorem Kp.same {w w' : World} (h : Kp (fun _ _ => False) w w') {b : Nat} (hb : b < w.heap.size) : w'.heap[b]? = w.heap[b]? := by
  have h := h.obj b hb
  unfold ObjKp at h
  split at h
  · rename_i c t fr hc
    obtain ⟨c', fr', h1, h2, h3, h4⟩ := h
    rw [h1, hc, h4 (fun _ h => h)]
    congr 2
    apply Array.ext h2
    intro i hi hi'
    have := h3 i (fun h => h)
    simpa [hi, hi'] using this
  · rename_i r hr
    obtain ⟨r', h1, h2⟩ := h
    rw [h1, hr, h2 (fun h => h)]
  · rename_i es n hr
    obtain ⟨es', n', h1, h2⟩ := h
    rw [h1, hr, (h2 (fun h => h)).1, (h2 (fun h => h)).2]
  · exact h

theorem Marks0.trans {b : Nat} {w w1 w2 : World} (h : Marks0 b w w1) (h' : Marks0 b w1 w2) : Marks0 b w w2 := fun o => (h' o).trans (h o)
theorem Marks0.refl (b : Nat) (w : World) : Marks0 b w w := fun _ => rfl

/-! ### Values -/

/-- What nobody writes any more. -/
inductive PR (w : World) (F : Nat → Nat → Prop) : V → Value → Prop
  | bool (b : Bool) : PR w F (.bool b) (.bool b)
  | int (k : IntKind) (n : Int) : PR w F (.int k n) (.int k n)
  | str (s : List UInt8) : PR w F (.str s) (.string ⟨s.toArray⟩)
  | nilp : PR w F .nilp (.pointer none)
  | nilf : PR w F .nilf .nilFunc
  | nilm : PR w F .nilm (.map none)
  | nils (k : Nat) : PR w F (.nils k) (.slice none 0 0)
  | fn (f : Fn) : PR w F (.fn f [] []) (.func f #[] #[])
  | sl (k : Nat) (rows : List (List V)) (a : Option Addr) (cap b off : Nat) (vals : Nat → Nat → Value) (hcap : rows.length ≤ cap) (hn : a = none → cap = 0)
      (hk : ∀ r ∈ rows, r.length = k) (ha : rows ≠ [] → a = some ⟨b, off, none⟩)
      (hc : ∀ (i j : Nat) (r : List V) (v : V), rows[i]? = some r → r[j]? = some v → w.cell? ⟨b, off + i * k + j, none⟩ = some (vals i j) ∧ ¬ F b (off + i * k + j))
      (hr : ∀ (i j : Nat) (r : List V) (v : V), rows[i]? = some r → r[j]? = some v → PR w F v (vals i j)) : PR w F (.sl k rows) (.slice a rows.length cap)

/-- A row of cells that goes on to a place at least. -/
def Cap (w : World) (b n : Nat) : Prop := ∃ c t fr, w.heap[b]? = some (.cells c t fr) ∧ n ≤ c.size

inductive R (w : World) (F : Nat → Nat → Prop) (ι : Places) : V → Value → Prop
  | pr {v : V} {x : Value} (h : PR w F v x) : R w F ι v x
  | undef (x : Value) : R w F ι .undef x
  | no : R w F ι .no Go.undef
  | ptr (i off b base : Nat) (h : ι[i]? = some (.blk b base)) : R w F ι (.ptr i off) (.pointer (some ⟨b, base + off, none⟩))
  | rp (row : List V) (off b base : Nat) (vals : Nat → Value)
      (hc : ∀ (j : Nat) (v : V), row[j]? = some v → w.cell? ⟨b, base + j, none⟩ = some (vals j) ∧ ¬ F b (base + j))
      (hr : ∀ (j : Nat) (v : V), row[j]? = some v → PR w F v (vals j)) : R w F ι (.rp row off) (.pointer (some ⟨b, base + off, none⟩))
  | ms (i off len cap b base cap' : Nat) (ad : Option Addr) (h : ι[i]? = some (.blk b base)) (h1 : len ≤ cap) (h2 : cap ≤ cap') (ha : cap ≠ 0 → ad = some ⟨b, base + off, none⟩) (hn : ad = none → cap' = 0) : R w F ι (.ms i off len cap) (.slice ad len cap')
  | agg (cs : List V) (xs : Array Value) (hs : xs.size = cs.length) (h : ∀ (j : Nat) (v : V) (x : Value), cs[j]? = some v → xs[j]? = some x → R w F ι v x) : R w F ι (.agg cs) (.agg xs)
  | tup (cs : List V) (xs : Array Value) (hs : xs.size = cs.length) (h : ∀ (j : Nat) (v : V) (x : Value), cs[j]? = some v → xs[j]? = some x → R w F ι v x) : R w F ι (.tup cs) (.tuple xs)
  | fn (f : Fn) (l m : List V) (xs ys : Array Value) (hs : xs.size = l.length) (ht : ys.size = m.length) (h : ∀ (j : Nat) (v : V) (x : Value), l[j]? = some v → xs[j]? = some x → R w F ι v x)
      (h' : ∀ (j : Nat) (v : V) (x : Value), m[j]? = some v → ys[j]? = some x → R w F ι v x) : R w F ι (.fn f l m) (.func f xs ys)
  | yld (i l : Nat) (h : ι[i]? = some (.lp l)) : R w F ι (.yld i) (.func (.yield l) #[] #[])
  | bptr (i l : Nat) (h : ι[i]? = some (.lp l)) : R w F ι (.bptr i) (.pointer (some ⟨l, 0, none⟩))
  | mptr (i l : Nat) (h : ι[i]? = some (.lp l)) : R w F ι (.mptr i) (.map (some l))
  | mg (k i off len cap b base cap' : Nat) (ad : Option Addr) (h : ι[i]? = some (.blk b base)) (h1 : len ≤ cap) (h2 : cap ≤ cap') (ha : cap' ≠ 0 → ad = some ⟨b, base + off, none⟩) (hn : ad = none → cap' = 0) (hc : Cap w b (base + off + cap' * k)) : R w F ι (.mg k i off len cap) (.slice ad len cap')
  | mix (k : Nat) (rows : List (List V)) (i n b off cap : Nat) (h : ι[i]? = some (.blk b (off + rows.length * k))) (hl : rows.length + n ≤ cap) (hp : PR w F (.sl k rows) (.slice (some ⟨b, off, none⟩) rows.length cap)) (hc : Cap w b (off + cap * k)) :
      R w F ι (.mix k rows i n) (.slice (some ⟨b, off, none⟩) (rows.length + n) cap)

/-- An own list: it reads, and what lies behind its end, up to its capacity, is nobody else's. -/
def RO (w : World) (F : Nat → Nat → Prop) (k : Nat) (rows : List (List V)) (x : Value) (tl : Option (Nat × Nat)) : Prop :=
  PR w F (.sl k rows) x ∧ ∃ a cap, x = .slice a rows.length cap ∧
    match tl with
    | none => cap = 0
    | some (b, n) => ∃ off c t fr, a = some ⟨b, off, none⟩ ∧ n = off + rows.length * k ∧ w.heap[b]? = some (.cells c t fr) ∧ off + cap * k ≤ c.size ∧
        ∀ o, n ≤ o → o < c.size → w.frozen? ⟨b, o, none⟩ = false

/-- What stands in a place. -/
def RL (w : World) (F : Nat → Nat → Prop) (ι : Places) (v : V) (x : Value) (tl : Option (Nat × Nat)) : Prop :=
  match v with
  | .own k rows => RO w F k rows x tl
  | v => R w F ι v x ∧ tl = none

def stN : LoopState → Nat
  | .ready => 0
  | .busy => 1
  | .done => 2
  | .exhausted => 3

/-- The jump that a record holds. -/
def pendC : Nat → Option Code
  | 0 => none
  | 1 => some .ret
  | n + 2 => some (.exit n)

/-- What is known of a label: the slots of a round's parameters, the frame's size, the parameters, the two codes. -/
structure LblP where
  lb : Nat → List Nat → Nat → Array Tmp → Code → Code → Prop
  gl : List Nat
  tb : List (Nat × List Value)
  /-- Below this number a block may lead to younger ones below it too; none: any block may lead anywhere. -/
  lim : Option Nat

/-- May stand in a block. -/
def LblP.fit (E : LblP) (i : Nat) (v : V) : Prop := ∀ N, E.lim = some N → v.under (max (i + 1) N) = true

/-- Variables of the program's that hold an int, and tables of the program's. -/
def VarsOK (gl : List Nat) (tb : List (Nat × List Value)) (w : World) : Prop := (∀ g ∈ gl, ∃ m : Int, w.cell? ⟨g, 0, none⟩ = some (.int .i64 m)) ∧ ∀ p ∈ tb, ∀ (j : Nat) (x : Value), p.2[j]? = some x → w.cell? ⟨p.1, j, none⟩ = some x

/-- And nobody of ours owns them. -/
def GloOK (gl : List Nat) (tb : List (Nat × List Value)) (ρ : Own) (w : World) : Prop := (∀ g ∈ gl, (∃ m : Int, w.cell? ⟨g, 0, none⟩ = some (.int .i64 m)) ∧ ∀ k b n, ρ k = some (b, n) → b ≠ g) ∧
  ∀ p ∈ tb, (∀ (j : Nat) (x : Value), p.2[j]? = some x → w.cell? ⟨p.1, j, none⟩ = some x) ∧ (p.1 < w.heap.size ∧ ∀ k b n, ρ k = some (b, n) → b ≠ p.1)

theorem GloOK.vars {gl : List Nat} {tb : List (Nat × List Value)} {ρ : Own} {w : World} (h : GloOK gl tb ρ w) : VarsOK gl tb w := ⟨fun g hg => (h.1 g hg).1, fun p hp => (h.2 p hp).1⟩

/-- What a loop's record stands for. -/
structure Rcd (E : LblP) (ι : Places) (ρ : Own) (w : World) (i l : Nat) (st pend lbl : Nat) (ps ks : List Nat) (us : List V) (r : Loop) : Prop where
  own : ρ (.blk i) = some (l, 0)
  cel : ∀ j, ρ (.cell i j) = none
  obj : w.heap[l]? = some (.loop r)
  st : stN r.state = st
  pend : r.pending = pendC pend
  lbl : E.lb lbl ps r.tmps.size r.params r.assign r.body
  fr : ∀ (j k : Nat) (v : V), ks[j]? = some k → us[j]? = some v → R w (foot ρ) ι v (r.tmps.getD k Go.undef)
  und : V.underAll i us = true

/-- A builder's bytes: none, or in a row of its own. -/
def BufIs (e : Nat) (w : World) (v : Value) (bs : List UInt8) (tl : Option (Nat × Nat)) : Prop :=
  (bs = [] ∧ v = .slice none 0 0 ∧ tl = none) ∨
  bs ≠ [] ∧ ∃ (g cap : Nat) (cur : Array Value), v = .slice (some ⟨g, 0, none⟩) bs.length cap ∧ tl = some (g, 0) ∧ w.heap[g]? = some (.cells cur e (0, 0)) ∧ bs.length ≤ cap ∧ cap ≤ maxLen ∧ cur.size = cap ∧ ∀ (j : Nat) (x : UInt8), bs[j]? = some x → cur[j]? = some (.int .u8 x.toNat)

/-- A builder of texts. -/
structure Bld (ρ : Own) (w : World) (i l : Nat) (T e : Nat) (bs : List UInt8) : Prop where
  own : ρ (.blk i) = some (l, 0)
  cel : ∀ j, j ≠ 0 → ρ (.cell i j) = none
  at_ : ∃ p v, w.heap[l]? = some (.cells #[p, v] T (0, 0)) ∧ (p = .pointer none ∨ p = .pointer (some ⟨l, 0, none⟩)) ∧ BufIs e w v bs (ρ (.cell i 0))

/-- Cells of kinds, and what they stand for. -/
def Cs : List CK → List V → List Value → Prop
  | [], [], [] => True
  | .bool :: ks, .bool b :: vs, x :: xs => x = .bool b ∧ Cs ks vs xs
  | .int k :: ks, .int k' n :: vs, x :: xs => k' = k ∧ x = .int k n ∧ Cs ks vs xs
  | .str :: ks, .str s :: vs, x :: xs => x = .string ⟨s.toArray⟩ ∧ Cs ks vs xs
  | _, _, _ => False

def isAggV : Value → Bool
  | .agg _ => true
  | _ => false

/-- A map: its keys' cells and its values, in the order in which they came. -/
structure Mp (ι : Places) (ρ : Own) (w : World) (i l : Nat) (ag : Bool) (kinds : List CK) (ks : List (List V)) (vs : List V) : Prop where
  own : ρ (.blk i) = some (l, 0)
  cel : ∀ j, ρ (.cell i j) = none
  at_ : ∃ es : Array MapEntry, w.heap[l]? = some (.map es es.size) ∧ es.size = ks.length ∧ es.size = vs.length ∧
    ∀ (j : Nat) (x : MapEntry), es[j]? = some x → x.born = j ∧ isAggV x.key = ag ∧ (∀ k, ks[j]? = some k → Cs kinds k x.key.cells.toList) ∧ ∀ v, vs[j]? = some v → R w (foot ρ) ι v x.val
  und : V.underAll i vs = true

/-- What lies in a place that is no plain block: a loop's record, a builder, a map. -/
def Rcx (E : LblP) (ι : Places) (ρ : Own) (w : World) (i l : Nat) (vs : List V) : Prop :=
  (∃ st pend lbl ps ks us r, vs = [.lrec st pend lbl ps ks us] ∧ Rcd E ι ρ w i l st pend lbl ps ks us r) ∨ (∃ T e bs, vs = [.bld T e bs] ∧ Bld ρ w i l T e bs) ∨
    ∃ ag kinds ks us, vs = [.mp ag kinds ks us] ∧ Mp ι ρ w i l ag kinds ks us

theorem Rcx.own {E : LblP} {ι : Places} {ρ : Own} {w : World} {i l : Nat} {vs : List V} (h : Rcx E ι ρ w i l vs) : ρ (.blk i) = some (l, 0) := by
  rcases h with ⟨_, _, _, _, _, _, _, _, h⟩ | ⟨_, _, _, _, h⟩ | ⟨_, _, _, _, _, h⟩
  · exact h.own
  · exact h.own
  · exact h.own

theorem Rcx.lrec {E : LblP} {ι : Places} {ρ : Own} {w : World} {i l st pend lbl : Nat} {ps ks : List Nat} {us : List V} (h : Rcx E ι ρ w i l [.lrec st pend lbl ps ks us]) : ∃ r, Rcd E ι ρ w i l st pend lbl ps ks us r := by
  rcases h with ⟨st0, p0, lbl0, ps0, ks0, us0, r0, e, hR⟩ | ⟨_, _, _, e, _⟩ | ⟨_, _, _, _, e, _⟩
  · simp only [List.cons.injEq, V.lrec.injEq, and_true] at e
    obtain ⟨rfl, rfl, rfl, rfl, rfl, rfl⟩ := e
    exact ⟨r0, hR⟩
  · cases e
  · cases e

theorem Rcx.bld {E : LblP} {ι : Places} {ρ : Own} {w : World} {i l T e : Nat} {bs : List UInt8} (h : Rcx E ι ρ w i l [.bld T e bs]) : Bld ρ w i l T e bs := by
  rcases h with ⟨_, _, _, _, _, _, _, e, _⟩ | ⟨T', e', bs', e, h⟩ | ⟨_, _, _, _, e, _⟩
  · cases e
  · simp only [List.cons.injEq, V.bld.injEq, and_true] at e
    obtain ⟨rfl, rfl, rfl⟩ := e
    exact h
  · cases e

theorem Rcx.mp {E : LblP} {ι : Places} {ρ : Own} {w : World} {i l : Nat} {ag : Bool} {kinds : List CK} {ks : List (List V)} {us : List V} (h : Rcx E ι ρ w i l [.mp ag kinds ks us]) : Mp ι ρ w i l ag kinds ks us := by
  rcases h with ⟨_, _, _, _, _, _, _, e, _⟩ | ⟨T', e', bs', e, h⟩ | ⟨_, _, _, _, e, h⟩
  · cases e
  · cases e
  · simp only [List.cons.injEq, V.mp.injEq, and_true] at e
    obtain ⟨rfl, rfl, rfl, rfl⟩ := e
    exact h

theorem Rcx.live {E : LblP} {ι : Places} {ρ : Own} {w : World} {i l : Nat} {vs : List V} (h : Rcx E ι ρ w i l vs) : ∀ k b n, (k = .blk i ∨ ∃ j, k = .cell i j) → ρ k = some (b, n) → ∀ d, w.heap[b]? ≠ some (.deferred d) := by
  intro k b n hk hb d hd
  rcases h with ⟨_, _, _, _, _, _, _, _, h⟩ | ⟨_, _, _, _, h⟩ | ⟨_, _, _, _, _, h⟩
  rotate_left 2
  · rcases hk with rfl | ⟨j, rfl⟩
    · rw [h.own] at hb
      cases hb
      obtain ⟨es, h1, _⟩ := h.at_
      rw [h1] at hd; cases hd
    · rw [h.cel] at hb; cases hb
  · rcases hk with rfl | ⟨j, rfl⟩
    · rw [h.own] at hb
      cases hb
      rw [h.obj] at hd; cases hd
    · rw [h.cel] at hb; cases hb
  · obtain ⟨p, v, h1, _, h3⟩ := h.at_
    rcases hk with rfl | ⟨j, rfl⟩
    · rw [h.own] at hb
      cases hb
      rw [h1] at hd; cases hd
    · by_cases hj : j = 0
      · subst hj
        rcases h3 with ⟨_, _, h3⟩ | ⟨_, g, cap, cur, _, h3, h4, _⟩
        · rw [h3] at hb; cases hb
        · rw [h3] at hb
          cases hb
          rw [h4] at hd; cases hd
      · rw [h.cel j hj] at hb; cases hb

theorem Rcx.obj {E : LblP} {ι : Places} {ρ : Own} {w : World} {i l : Nat} {vs : List V} (h : Rcx E ι ρ w i l vs) : ∃ x, w.heap[l]? = some x := by
  rcases h with ⟨_, _, _, _, _, _, _, _, h⟩ | ⟨_, _, _, _, h⟩ | ⟨_, _, _, _, _, h⟩
  · exact ⟨_, h.obj⟩
  · obtain ⟨p, v, h1, _⟩ := h.at_
    exact ⟨_, h1⟩
  · obtain ⟨es, h1, _⟩ := h.at_
    exact ⟨_, h1⟩

structure Mem (E : LblP) (H : Heap) (ι : Places) (ρ : Own) (w : World) : Prop where
  len : ι.length = H.length
  blk : ∀ (i : Nat) (vs : List V), H[i]? = some (some vs) → (∀ l, ι[i]? ≠ some (.lp l)) → ∃ b base c t fr, ι[i]? = some (.blk b base) ∧ ρ (.blk i) = some (b, base) ∧ w.heap[b]? = some (.cells c t fr) ∧
    base + vs.length ≤ c.size ∧ (∀ o, base ≤ o → o < c.size → w.frozen? ⟨b, o, none⟩ = false) ∧
    ∀ (j : Nat) (v : V), vs[j]? = some v → ∃ x, c[base + j]? = some x ∧ RL w (foot ρ) ι v x (ρ (.cell i j)) ∧ E.fit i v
  rcd : ∀ (i : Nat) (vs : List V) (l : Nat), H[i]? = some (some vs) → ι[i]? = some (.lp l) → Rcx E ι ρ w i l vs
  dead : ∀ i, (∀ vs, H[i]? ≠ some (some vs)) → ρ (.blk i) = none ∧ ∀ j, ρ (.cell i j) = none
  past : ∀ i vs j, H[i]? = some (some vs) → vs.length ≤ j → ρ (.cell i j) = none
  glo : GloOK E.gl E.tb ρ w
  lim : ∀ N, E.lim = some N → N ≤ H.length

/-- From world to world. -/
structure Goes (ρ : Own) (ι : Places) (w : World) (ρ' : Own) (ι' : Places) (w' : World) : Prop where
  kp : Kp (afoot ρ) w w'
  io : ∀ (i : Nat) p, ι[i]? = some p → ι'[i]? = some p
  fp : ∀ k b n, k.mine = true → ρ' k = some (b, n) → w.heap.size ≤ b ∨ ∃ k' n', k'.mine = true ∧ ρ k' = some (b, n') ∧ n' ≤ n
  fr : ∀ n, ρ' (.fr n) = ρ (.fr n)
  fz : ∀ k b n, ρ' k = some (b, n) → b < w.heap.size → Marks0 b w w'

/-- Where no marks turn. -/
theorem Goes.of {ρ : Own} {ι : Places} {w : World} {ρ' : Own} {ι' : Places} {w' : World} (kp : Kp (afoot ρ) w w') (io : ∀ (i : Nat) p, ι[i]? = some p → ι'[i]? = some p)
    (fp : ∀ k b n, k.mine = true → ρ' k = some (b, n) → w.heap.size ≤ b ∨ ∃ k' n', k'.mine = true ∧ ρ k' = some (b, n') ∧ n' ≤ n) (fr : ∀ n, ρ' (.fr n) = ρ (.fr n))
    (hm : ∀ b, b < w.heap.size → Marks0 b w w') : Goes ρ ι w ρ' ι' w' := ⟨kp, io, fp, fr, fun _ b _ _ hb => hm b hb⟩

theorem Goes.inFoot {ρ ρ' : Own} {ι ι' : Places} {w w' : World} (h : Goes ρ ι w ρ' ι' w') {b o : Nat} (hb : b < w.heap.size) (hf : foot ρ' b o) : foot ρ b o := by
  obtain ⟨k, n, hk, hn⟩ := hf
  cases hm : k.mine with
  | true =>
    rcases h.fp k b n hm hk with h1 | ⟨k', n', _, hk', hn'⟩
    · omega
    · exact ⟨k', n', hk', Nat.le_trans hn' hn⟩
  | false =>
    cases k <;> simp [Key.mine] at hm
    rename_i q
    exact ⟨.fr q, n, by rw [← h.fr]; exact hk, hn⟩

theorem Goes.inAfoot {ρ ρ' : Own} {ι ι' : Places} {w w' : World} (h : Goes ρ ι w ρ' ι' w') {b o : Nat} (hb : b < w.heap.size) (hf : afoot ρ' b o) : afoot ρ b o := by
  obtain ⟨k, n, hm, hk, hn⟩ := hf
  rcases h.fp k b n hm hk with h1 | ⟨k', n', hm', hk', hn'⟩
  · omega
  · exact ⟨k', n', hm', hk', Nat.le_trans hn' hn⟩

theorem Goes.refl (ρ : Own) (ι : Places) (w : World) : Goes ρ ι w ρ ι w := .of (.refl _ _) (fun _ _ h => h) (fun k b n hm h => .inr ⟨k, n, hm, h, Nat.le_refl _⟩) (fun _ => rfl) (fun b _ => .refl b w)

theorem Goes.trans {ρ ρ1 ρ2 : Own} {ι ι1 ι2 : Places} {w w1 w2 : World} (h : Goes ρ ι w ρ1 ι1 w1) (h' : Goes ρ1 ι1 w1 ρ2 ι2 w2) : Goes ρ ι w ρ2 ι2 w2 := by
  refine ⟨h.kp.trans h'.kp (fun b o hb hf => h.inAfoot hb hf), fun i p hi => h'.io i p (h.io i p hi), fun k b n hm hk => ?_, fun n => (h'.fr n).trans (h.fr n), fun k b n hk hb => ?_⟩
  rcases h'.fp k b n hm hk with h1 | ⟨k', n', hm', hk', hn'⟩
  · exact .inl (Nat.le_trans h.kp.size h1)
  · rcases h.fp k' b n' hm' hk' with h2 | ⟨k2, n2, hm2, hk2, hn2⟩
    · exact .inl h2
    · exact .inr ⟨k2, n2, hm2, hk2, Nat.le_trans hn2 hn'⟩
  · have hb1 := Nat.lt_of_lt_of_le hb h.kp.size
    refine Marks0.trans ?_ (h'.fz k b n hk hb1)
    cases hm : k.mine with
    | true =>
      rcases h'.fp k b n hm hk with h1 | ⟨k', n', _, hk', _⟩
      · omega
      · exact h.fz k' b n' hk' hb
    | false =>
      cases k <;> simp [Key.mine] at hm
      rename_i q
      exact h.fz (.fr q) b n (by rw [← h'.fr]; exact hk) hb

theorem GloOK.ext {gl : List Nat} {tb : List (Nat × List Value)} {ρ ρ' : Own} {ι ι' : Places} {w w' : World} (h : GloOK gl tb ρ w) (e : Goes ρ ι w ρ' ι' w') : GloOK gl tb ρ' w' := by
  refine ⟨fun g hg => ?_, fun p hp => ?_⟩
  rotate_left
  · obtain ⟨hm, hlt, ho⟩ := h.2 p hp
    refine ⟨fun j x hx => e.kp.cell (hm j x hx) (fun ⟨k, n, _, hk, _⟩ => ho k p.1 n hk rfl), Nat.lt_of_lt_of_le hlt e.kp.size, fun k b n hk => ?_⟩
    cases hm' : k.mine with
    | true =>
      rcases e.fp k b n hm' hk with h1 | ⟨k', n', _, hk', _⟩
      · omega
      · exact ho k' b n' hk'
    | false =>
      cases k <;> simp [Key.mine] at hm'
      rename_i q
      exact ho (.fr q) b n (by rw [← e.fr]; exact hk)
  obtain ⟨⟨m, hm⟩, ho⟩ := h.1 g hg
  refine ⟨⟨m, e.kp.cell hm (fun ⟨k, n, _, hk, _⟩ => ho k g n hk rfl)⟩, fun k b n hk => ?_⟩
  have hlt : g < w.heap.size := lt_of_obj (cell_obj hm).choose_spec.choose_spec.choose_spec.1
  cases hm' : k.mine with
  | true =>
    rcases e.fp k b n hm' hk with h1 | ⟨k', n', _, hk', _⟩
    · omega
    · exact ho k' b n' hk'
  | false =>
    cases k <;> simp [Key.mine] at hm'
    rename_i q
    exact ho (.fr q) b n (by rw [← e.fr]; exact hk)

theorem GloOK.foot {gl : List Nat} {tb : List (Nat × List Value)} {ρ ρ' : Own} {w : World} (h : GloOK gl tb ρ w) (hf : ∀ b o, AM.foot ρ' b o → AM.foot ρ b o) : GloOK gl tb ρ' w := by
  refine ⟨fun g hg => ?_, fun p hp => ?_⟩
  rotate_left
  · obtain ⟨hm, hlt, ho⟩ := h.2 p hp
    refine ⟨hm, hlt, fun k b n hk => ?_⟩
    obtain ⟨k', n', hk', _⟩ := hf b n ⟨k, n, hk, Nat.le_refl _⟩
    exact ho k' b n' hk'
  obtain ⟨hm, ho⟩ := h.1 g hg
  refine ⟨hm, fun k b n hk => ?_⟩
  obtain ⟨k', n', hk', _⟩ := hf b n ⟨k, n, hk, Nat.le_refl _⟩
  exact ho k' b n' hk'

/-! ### Readings go on -/

theorem PR.mono {w w' : World} {F F' : Nat → Nat → Prop} {v : V} {x : Value} (h : PR w F v x)
    (hm : ∀ b o y, w.cell? ⟨b, o, none⟩ = some y → ¬ F b o → w'.cell? ⟨b, o, none⟩ = some y ∧ ¬ F' b o) : PR w' F' v x := by
  induction h with
  | bool b => exact .bool b
  | int k n => exact .int k n
  | str s => exact .str s
  | nilp => exact .nilp
  | nilf => exact .nilf
  | nilm => exact .nilm
  | nils k => exact .nils k
  | fn f => exact .fn f
  | sl k rows a cap b off vals hcap hn hk ha hc hr ih =>
    exact .sl k rows a cap b off vals hcap hn hk ha (fun i j r v h1 h2 => hm _ _ _ (hc i j r v h1 h2).1 (hc i j r v h1 h2).2) ih

theorem R.mono {w w' : World} {F F' : Nat → Nat → Prop} {ι ι' : Places} {v : V} {x : Value} (h : R w F ι v x)
    (hm : ∀ b o y, w.cell? ⟨b, o, none⟩ = some y → ¬ F b o → w'.cell? ⟨b, o, none⟩ = some y ∧ ¬ F' b o) (hi : ∀ (i : Nat) p, ι[i]? = some p → ι'[i]? = some p) (hcap : ∀ b n, Cap w b n → Cap w' b n) : R w' F' ι' v x := by
  induction h with
  | pr h => exact .pr (h.mono hm)
  | undef x => exact .undef x
  | no => exact .no
  | ptr i off b base h => exact .ptr i off b base (hi _ _ h)
  | rp row off b base vals hc hr => exact .rp row off b base vals (fun j v h => hm _ _ _ (hc j v h).1 (hc j v h).2) (fun j v h => (hr j v h).mono hm)
  | ms i off len cap b base cap' ad h h1 h2 ha hn => exact .ms i off len cap b base cap' ad (hi _ _ h) h1 h2 ha hn
  | agg cs xs hs h ih => exact .agg cs xs hs ih
  | tup cs xs hs h ih => exact .tup cs xs hs ih
  | fn f l m xs ys hs ht h h' ih ih' => exact .fn f l m xs ys hs ht ih ih'
  | yld i l h => exact .yld i l (hi _ _ h)
  | bptr i l h => exact .bptr i l (hi _ _ h)
  | mptr i l h => exact .mptr i l (hi _ _ h)
  | mg k i off len cap b base cap' ad h h1 h2 ha hn hc => exact .mg k i off len cap b base cap' ad (hi _ _ h) h1 h2 ha hn (hcap _ _ hc)
  | mix k rows i n b off cap h hl hp hc => exact .mix k rows i n b off cap (hi _ _ h) hl (hp.mono hm) (hcap _ _ hc)

theorem Kp.cap {F : Nat → Nat → Prop} {w w' : World} (h : Kp F w w') (b n : Nat) (hc : Cap w b n) : Cap w' b n := by
  obtain ⟨c, t, fr, h1, h2⟩ := hc
  obtain ⟨c', fr', h3, h4, _⟩ := h.obj_cells h1
  exact ⟨c', t, fr', h3, by omega⟩

theorem Goes.step {ρ ρ' : Own} {ι ι' : Places} {w w' : World} (h : Goes ρ ι w ρ' ι' w') (b o : Nat) (y : Value) (hc : w.cell? ⟨b, o, none⟩ = some y) (hf : ¬ foot ρ b o) :
    w'.cell? ⟨b, o, none⟩ = some y ∧ ¬ foot ρ' b o :=
  ⟨h.kp.cell hc (fun hh => hf (afoot_foot hh)), fun hf' => hf (h.inFoot (lt_of_obj (cell_obj hc).choose_spec.choose_spec.choose_spec.1) hf')⟩

theorem PR.ext {ρ ρ' : Own} {ι ι' : Places} {w w' : World} {v : V} {x : Value} (h : PR w (foot ρ) v x) (e : Goes ρ ι w ρ' ι' w') : PR w' (foot ρ') v x := h.mono e.step
theorem R.ext {ρ ρ' : Own} {ι ι' : Places} {w w' : World} {v : V} {x : Value} (h : R w (foot ρ) ι v x) (e : Goes ρ ι w ρ' ι' w') : R w' (foot ρ') ι' v x := h.mono e.step e.io e.kp.cap

theorem RO.ext {ρ ρ' : Own} {ι ι' : Places} {w w' : World} {k : Nat} {rows : List (List V)} {x : Value} {tl : Option (Nat × Nat)} (h : RO w (foot ρ) k rows x tl) (e : Goes ρ ι w ρ' ι' w')
    (hk : ∀ p, tl = some p → ∃ q, ρ' q = some p) : RO w' (foot ρ') k rows x tl := by
  obtain ⟨hp, a, cap, hx, ht⟩ := h
  refine ⟨hp.ext e, a, cap, hx, ?_⟩
  cases tl with
  | none => exact ht
  | some p =>
    obtain ⟨b, n⟩ := p
    obtain ⟨off, c, t, fr, ha, hn, hb, hsz, hfr⟩ := ht
    obtain ⟨c', fr', hb', hs', _⟩ := e.kp.obj_cells hb
    obtain ⟨q, hq⟩ := hk _ rfl
    exact ⟨off, c', t, fr', ha, hn, hb', by omega, fun o h1 h2 => by rw [e.fz q b n hq (lt_of_obj hb)]; exact hfr o h1 (by omega)⟩

theorem RL_other {w : World} {F : Nat → Nat → Prop} {ι : Places} {v : V} {x : Value} {tl : Option (Nat × Nat)} (hv : ∀ k r, v ≠ .own k r) : RL w F ι v x tl ↔ R w F ι v x ∧ tl = none := by
  unfold RL
  split
  · rename_i k r; exact absurd rfl (hv k r)
  · rfl

theorem own_or (v : V) : (∃ k r, v = .own k r) ∨ ∀ k r, v ≠ .own k r := by
  cases v <;> first | exact .inl ⟨_, _, rfl⟩ | exact .inr (fun _ _ h => by cases h)

theorem RL.extw {ρ ρ' : Own} {ι ι' : Places} {w w' : World} {v : V} {x : Value} {tl : Option (Nat × Nat)} (h : RL w (foot ρ) ι v x tl) (e : Goes ρ ι w ρ' ι' w') (hk : ∀ p, tl = some p → ∃ q, ρ' q = some p) : RL w' (foot ρ') ι' v x tl := by
  rcases own_or v with ⟨k, r, rfl⟩ | hv
  · exact RO.ext h e hk
  · rw [RL_other hv] at *; exact ⟨h.1.ext e, h.2⟩

theorem RL.ext {ρ ρ' : Own} {ι ι' : Places} {w w' : World} {v : V} {x : Value} {k : Key} (h : RL w (foot ρ) ι v x (ρ k)) (e : Goes ρ ι w ρ' ι' w') (hk : ρ' k = ρ k) : RL w' (foot ρ') ι' v x (ρ k) :=
  h.extw e (fun p hp => ⟨k, by rw [hk, hp]⟩)

/-- A smaller footprint. -/
theorem RL.anti {w : World} {F F' : Nat → Nat → Prop} {ι : Places} {v : V} {x : Value} {tl : Option (Nat × Nat)} (h : RL w F ι v x tl) (hf : ∀ b o, F' b o → F b o) : RL w F' ι v x tl := by
  have hm : ∀ b o y, w.cell? ⟨b, o, none⟩ = some y → ¬ F b o → w.cell? ⟨b, o, none⟩ = some y ∧ ¬ F' b o := fun b o y h1 h2 => ⟨h1, fun h => h2 (hf _ _ h)⟩
  rcases own_or v with ⟨k, r, rfl⟩ | hv
  · obtain ⟨hp, r⟩ := h; exact ⟨hp.mono hm, r⟩
  · rw [RL_other hv] at *; exact ⟨h.1.mono hm (fun _ _ h => h) (fun _ _ h => h), h.2⟩

theorem Rcd.mono {E : LblP} {ι ι' : Places} {ρ ρ' : Own} {w w' : World} {i l st pend lbl : Nat} {ps ks : List Nat} {us : List V} {r : Loop} (h : Rcd E ι ρ w i l st pend lbl ps ks us r)
    (hm : ∀ b o y, w.cell? ⟨b, o, none⟩ = some y → ¬ foot ρ b o → w'.cell? ⟨b, o, none⟩ = some y ∧ ¬ foot ρ' b o) (hi : ∀ (i : Nat) p, ι[i]? = some p → ι'[i]? = some p) (hcap : ∀ b n, Cap w b n → Cap w' b n)
    (h1 : ρ' (.blk i) = ρ (.blk i)) (h2 : ∀ j, ρ' (.cell i j) = ρ (.cell i j)) (h3 : w'.heap[l]? = w.heap[l]?) : Rcd E ι' ρ' w' i l st pend lbl ps ks us r :=
  ⟨by rw [h1]; exact h.own, fun j => by rw [h2]; exact h.cel j, by rw [h3]; exact h.obj, h.st, h.pend, h.lbl, fun j k v hj hv => (h.fr j k v hj hv).mono hm hi hcap, h.und⟩

theorem Bld.mono {ρ ρ' : Own} {w w' : World} {i l T e : Nat} {bs : List UInt8} (h : Bld ρ w i l T e bs) (h1 : ρ' (.blk i) = ρ (.blk i)) (h2 : ∀ j, ρ' (.cell i j) = ρ (.cell i j))
    (h3 : ∀ k b n, (k = .blk i ∨ ∃ j, k = .cell i j) → ρ k = some (b, n) → w'.heap[b]? = w.heap[b]?) : Bld ρ' w' i l T e bs := by
  refine ⟨by rw [h1]; exact h.own, fun j hj => by rw [h2]; exact h.cel j hj, ?_⟩
  obtain ⟨p, v, q1, q2, q3⟩ := h.at_
  refine ⟨p, v, by rw [h3 _ l 0 (.inl rfl) h.own]; exact q1, q2, ?_⟩
  rw [h2]
  rcases q3 with q3 | ⟨r0, g, cap, cur, r1, r2, r3, r4⟩
  · exact .inl q3
  · exact .inr ⟨r0, g, cap, cur, r1, r2, by rw [h3 _ g 0 (.inr ⟨0, rfl⟩) r2]; exact r3, r4⟩

theorem Mp.mono {ι ι' : Places} {ρ ρ' : Own} {w w' : World} {i l : Nat} {ag : Bool} {kinds : List CK} {ks : List (List V)} {us : List V} (h : Mp ι ρ w i l ag kinds ks us)
    (hm : ∀ b o y, w.cell? ⟨b, o, none⟩ = some y → ¬ foot ρ b o → w'.cell? ⟨b, o, none⟩ = some y ∧ ¬ foot ρ' b o) (hi : ∀ (i : Nat) p, ι[i]? = some p → ι'[i]? = some p) (hcap : ∀ b n, Cap w b n → Cap w' b n)
    (h1 : ρ' (.blk i) = ρ (.blk i)) (h2 : ∀ j, ρ' (.cell i j) = ρ (.cell i j)) (h3 : w'.heap[l]? = w.heap[l]?) : Mp ι' ρ' w' i l ag kinds ks us := by
  obtain ⟨es, q1, q2, q3, q4⟩ := h.at_
  exact ⟨by rw [h1]; exact h.own, fun j => by rw [h2]; exact h.cel j, ⟨es, by rw [h3]; exact q1, q2, q3, fun j x hx => ⟨(q4 j x hx).1, (q4 j x hx).2.1, (q4 j x hx).2.2.1, fun v hv => ((q4 j x hx).2.2.2 v hv).mono hm hi hcap⟩⟩, h.und⟩

theorem Rcx.mono {E : LblP} {ι ι' : Places} {ρ ρ' : Own} {w w' : World} {i l : Nat} {vs : List V} (h : Rcx E ι ρ w i l vs)
    (hm : ∀ b o y, w.cell? ⟨b, o, none⟩ = some y → ¬ foot ρ b o → w'.cell? ⟨b, o, none⟩ = some y ∧ ¬ foot ρ' b o) (hi : ∀ (i : Nat) p, ι[i]? = some p → ι'[i]? = some p) (hcap : ∀ b n, Cap w b n → Cap w' b n)
    (h1 : ρ' (.blk i) = ρ (.blk i)) (h2 : ∀ j, ρ' (.cell i j) = ρ (.cell i j)) (h3 : ∀ k b n, (k = .blk i ∨ ∃ j, k = .cell i j) → ρ k = some (b, n) → w'.heap[b]? = w.heap[b]?) : Rcx E ι' ρ' w' i l vs := by
  rcases h with ⟨st, pend, lbl, ps, ks, us, r, e, h⟩ | ⟨T, el, bs, e, h⟩ | ⟨ag, kinds, ks, us, e, h⟩
  · exact .inl ⟨st, pend, lbl, ps, ks, us, r, e, h.mono hm hi hcap h1 h2 (h3 _ l 0 (.inl rfl) h.own)⟩
  · exact .inr (.inl ⟨T, el, bs, e, h.mono h1 h2 h3⟩)
  · exact .inr (.inr ⟨ag, kinds, ks, us, e, h.mono hm hi hcap h1 h2 (h3 _ l 0 (.inl rfl) h.own)⟩)

theorem Rcx.ext {E : LblP} {ι ι' : Places} {ρ ρ' : Own} {w w' : World} {i l : Nat} {vs : List V} (h : Rcx E ι ρ w i l vs) (e : Goes ρ ι w ρ' ι' w')
    (h1 : ρ' (.blk i) = ρ (.blk i)) (h2 : ∀ j, ρ' (.cell i j) = ρ (.cell i j)) (h3 : ∀ k b n, (k = .blk i ∨ ∃ j, k = .cell i j) → ρ k = some (b, n) → w'.heap[b]? = w.heap[b]?) : Rcx E ι' ρ' w' i l vs := h.mono e.step e.io e.kp.cap h1 h2 h3

theorem not_lp {ι : Places} {i b base : Nat} (h : ι[i]? = some (.blk b base)) : ∀ l, ι[i]? ≠ some (.lp l) := by
  intro l hl; rw [h] at hl; cases hl

theorem strip_other {v : V} (hv : ∀ k r, v ≠ .own k r) (hn : ∀ k, v ≠ .nils k) : v.strip = v := by
  cases v <;> first | rfl | exact absurd rfl (hv _ _) | exact absurd rfl (hn _)

theorem nils_or (v : V) : (∃ k, v = .nils k) ∨ ∀ k, v ≠ .nils k := by
  cases v <;> first | exact .inl ⟨_, rfl⟩ | exact .inr (fun _ h => by cases h)

theorem R.nils_inv {w : World} {F : Nat → Nat → Prop} {ι : Places} {k : Nat} {x : Value} (h : AM.R w F ι (.nils k) x) : x = .slice none 0 0 := by
  cases h with
  | pr h => cases h; rfl

theorem pr_nil (w : World) (F : Nat → Nat → Prop) (k : Nat) : PR w F (.sl k []) (.slice none 0 0) := .sl k [] none 0 0 0 (fun _ _ => default) (Nat.le_refl _) (fun _ => rfl) (by simp) (by simp) (by simp) (by simp)

theorem ro_nil (w : World) (F : Nat → Nat → Prop) (k : Nat) : RO w F k [] (.slice none 0 0) none := ⟨pr_nil w F k, none, 0, rfl, rfl⟩

theorem R.strip {w : World} {F : Nat → Nat → Prop} {ι : Places} {v : V} {x : Value} (h : AM.R w F ι v x) (hv : ∀ k r, v ≠ .own k r) : AM.R w F ι v.strip x := by
  rcases nils_or v with ⟨k, rfl⟩ | hn
  · rw [h.nils_inv]; exact .pr (pr_nil w F k)
  · rw [strip_other hv hn]; exact h

theorem RL.R {w : World} {F : Nat → Nat → Prop} {ι : Places} {v : V} {x : Value} {tl : Option (Nat × Nat)} (h : RL w F ι v x tl) : AM.R w F ι v.strip x := by
  rcases own_or v with ⟨k, r, rfl⟩ | hv
  · exact .pr h.1
  · exact ((RL_other hv).1 h).1.strip hv

theorem R.RL {w : World} {F : Nat → Nat → Prop} {ι : Places} {v : V} {x : Value} (h : AM.R w F ι v x) : RL w F ι v x none := by
  rcases own_or v with ⟨k, r, rfl⟩ | hv
  · cases h with
    | pr h => cases h
  · exact (RL_other hv).2 ⟨h, rfl⟩

theorem noOwn_tl {w : World} {F : Nat → Nat → Prop} {ι : Places} {v : V} {x : Value} {tl : Option (Nat × Nat)} (h : RL w F ι v x tl) (hv : ∀ k r, v ≠ .own k r) : tl = none :=
  ((RL_other hv).1 h).2

end Go.AM
