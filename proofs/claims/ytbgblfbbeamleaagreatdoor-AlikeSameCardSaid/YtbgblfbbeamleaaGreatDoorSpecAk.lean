/-
  The parts of this proof that speak of the functions one by one.
-/
import Derived.Test.YtbgblfbbeamleaaGreatDoorSpc
import Derived.Test.YtbgblfbbeamleaaGreatDoorTyl
import Derived.Test.YtbgblfbbeamleaaGreatDoorDoor
namespace Go.AM.Spec
set_option linter.unusedVariables false
set_option linter.unusedSimpArgs false
set_option maxHeartbeats 2000000
set_option maxRecDepth 10000

abbrev iw (n : Int) : V := .int .i64 n
abbrev u8 (n : Int) : V := .int .u8 n
def bys (s : List UInt8) : List V := s.map fun c => u8 c.toNat

theorem at_some {α : Type} {l : List α} {i : Nat} (h : i < l.length) : ∃ e, l[i]? = some e ∧ e ∈ l ∧ l.drop i = e :: l.drop (i + 1) := by
  refine ⟨l[i], List.getElem?_eq_getElem h, List.getElem_mem h, ?_⟩
  rw [List.drop_eq_getElem_cons h]

/-- A write. -/
structure Wr where
  pos : Int
  s : List UInt8
  k : Int
  id : Int
  ep : Int
def Wr.cells (x : Wr) : List V := iw x.pos :: (bys x.s ++ [iw x.k, iw x.id, iw x.ep])

/-- An event. -/
structure Evt where
  k : Int
  w : Wr
  tags : List (Int × Int)
def tg (x : Int × Int) : List V := [iw x.1, iw x.2]
def Evt.cells (e : Evt) : List V := iw e.k :: (e.w.cells ++ [.sl 2 (e.tags.map tg)])
def Evt.ok (e : Evt) : Prop := e.w.s.length = 32 ∧ e.tags.length ≤ 9223372036854775807

/-- A step; a trace. -/
abbrev Stp := Int × Int × Int × Int × Int
def s5 (x : Stp) : List V := [iw x.1, iw x.2.1, iw x.2.2.1, iw x.2.2.2.1, iw x.2.2.2.2]
structure Tr where
  log : List Evt
  steps : List Stp
  e : Int
  fuel : Int
def Tr.cells (t : Tr) : List V := [.sl 38 (t.log.map Evt.cells), .sl 5 (t.steps.map s5), iw t.e, iw t.fuel]
def Tr.ok (t : Tr) : Prop := (∀ e ∈ t.log, e.ok) ∧ t.log.length ≤ 9223372036854775807

theorem bys_strip (l : List UInt8) : (bys l).map V.strip = bys l := by simp [bys]
theorem bys_one (l : List UInt8) : (bys l).all V.one = true := by
  rw [List.all_eq_true]; intro v hv; obtain ⟨c, _, rfl⟩ := List.mem_map.1 hv; rfl
theorem bys_under (n : Nat) : ∀ l : List UInt8, V.underAll n (bys l) = true
  | [] => rfl
  | c :: l => by
    show (V.under n (u8 c.toNat) && V.underAll n (bys l)) = true
    rw [bys_under n l]; rfl
theorem underAll_app (n : Nat) : ∀ a b : List V, V.underAll n (a ++ b) = (V.underAll n a && V.underAll n b)
  | [], b => by simp [V.underAll]
  | x :: a, b => by simp only [List.cons_append, V.underAll, underAll_app n a b, Bool.and_assoc]
theorem setMany_over (a cs : List V) : ∀ (vs : List V), vs.length = cs.length → setMany (a ++ cs) a.length vs = a ++ vs := by
  intro vs
  induction vs generalizing a cs with
  | nil => intro h; have : cs = [] := List.eq_nil_of_length_eq_zero (by simpa using h.symm); subst this; simp [setMany]
  | cons v vs ih =>
    intro h
    match cs, h with
    | c :: cs, h =>
      have := ih (a ++ [v]) cs (by simpa using h)
      simp only [List.append_assoc, List.cons_append, List.nil_append, List.length_append, List.length_cons, List.length_nil] at this
      show setMany ((a ++ c :: cs).set a.length v) (a.length + 1) vs = a ++ v :: vs
      rw [List.set_append_right _ _ (Nat.le_refl _)]
      simpa using this
theorem setMany_self (cs vs : List V) (h : vs.length = cs.length) : setMany cs 0 vs = vs := by simpa using setMany_over [] cs vs h

section
variable (e : Evt) (h : e.ok)
include h
theorem Wr.len : e.w.cells.length = 36 := by simp [Wr.cells, bys, h.1]
theorem Evt.len : e.cells.length = 38 := by simp [Evt.cells, Wr.len e h]
omit h in
theorem Wr.strip : e.w.cells.map V.strip = e.w.cells := by simp [Wr.cells, bys_strip]
omit h in
theorem Evt.strip : e.cells.map V.strip = e.cells := by simp [Evt.cells, Wr.strip]
omit h in
theorem Evt.one : e.cells.all V.one = true := by simp only [Evt.cells, Wr.cells, List.all_cons, List.all_append, bys_one]; rfl
omit h in
theorem Evt.under (n : Nat) : V.underAll n e.cells = true := by
  simp only [Evt.cells, Wr.cells, V.underAll, underAll_app, bys_under]; rfl
theorem Evt.take : e.cells.take 38 = e.cells := List.take_of_length_le (by rw [Evt.len e h]; exact Nat.le_refl _)
theorem Evt.mid : (e.cells.tail).take 36 = e.w.cells := by
  show (e.w.cells ++ [_]).take 36 = e.w.cells
  rw [← Wr.len e h, List.take_left]
omit h in
theorem Evt.get0 : e.cells[0]? = some (iw e.k) := rfl
theorem Evt.get37 : e.cells[37]? = some (.sl 2 (e.tags.map tg)) := by
  show (e.w.cells ++ [V.sl 2 (e.tags.map tg)])[36]? = _
  rw [List.getElem?_append_right (by rw [Wr.len e h]; exact Nat.le_refl _), Wr.len e h]; rfl
theorem Evt.put (z : List V) (hz : z.length = 38) : setMany z 0 e.cells = e.cells := setMany_self _ _ (by rw [Evt.len e h, hz])
end

/-! ## Are two writes the same, two lists of tags, two events -/
theorem eq_bytes {ks : List CK} {xs ys : List V} {e : Bool} (h : eqCells ks xs ys = some e) : ∀ (n : Nat) (l m : List UInt8), l.length = n → m.length = n → ∃ e', eqCells (List.replicate n (.int .u8) ++ ks) (bys l ++ xs) (bys m ++ ys) = some e'
  | 0, [], [], _, _ => ⟨e, by simpa [bys] using h⟩
  | n + 1, a :: l, b :: m, h1, h2 => by
    obtain ⟨e', he⟩ := eq_bytes h n l m (by simpa using h1) (by simpa using h2)
    refine ⟨decide ((a.toNat : Int) = b.toNat) && e', ?_⟩
    simp only [List.replicate_succ, bys, List.map_cons, List.cons_append, eqCells, and_self, if_true]
    simp only [bys] at he
    rw [he]; rfl

def wKs : List CK := .int .i64 :: (List.replicate 32 (.int .u8) ++ [.int .i64, .int .i64, .int .i64])
def wEq (x y : Wr) : Bool := (eqCells wKs x.cells y.cells).getD false
theorem wEq_eq {a b : Evt} (ha : a.ok) (hb : b.ok) : eqCells [.int .i64, .int .u8, .int .u8, .int .u8, .int .u8, .int .u8, .int .u8, .int .u8, .int .u8, .int .u8, .int .u8, .int .u8, .int .u8, .int .u8, .int .u8, .int .u8, .int .u8, .int .u8, .int .u8, .int .u8, .int .u8, .int .u8, .int .u8, .int .u8, .int .u8, .int .u8, .int .u8, .int .u8, .int .u8, .int .u8, .int .u8, .int .u8, .int .u8, .int .i64, .int .i64, .int .i64] a.w.cells b.w.cells = some (wEq a.w b.w) := by
  have h0 : ∃ e, eqCells [.int .i64, .int .i64, .int .i64] [iw a.w.k, iw a.w.id, iw a.w.ep] [iw b.w.k, iw b.w.id, iw b.w.ep] = some e := ⟨decide (a.w.k = b.w.k) && (decide (a.w.id = b.w.id) && (decide (a.w.ep = b.w.ep) && true)), by simp only [eqCells, and_self, if_true, Option.map_some]⟩
  obtain ⟨e0, h0⟩ := h0
  obtain ⟨e1, h1⟩ := eq_bytes h0 32 a.w.s b.w.s ha.1 hb.1
  have h2 : eqCells wKs a.w.cells b.w.cells = some (decide (a.w.pos = b.w.pos) && e1) := by
    simp only [wKs, Wr.cells, eqCells, and_self, if_true]
    rw [h1]; rfl
  have h3 : eqCells wKs a.w.cells b.w.cells = some (wEq a.w b.w) := by unfold wEq; rw [h2]; rfl
  exact h3

/-- Are two lists the same, element by element? -/
def eqL {α : Type} (p : α → α → Bool) : List α → List α → Bool
  | [], [] => true
  | a :: l, b :: m => p a b && eqL p l m
  | _, _ => false
theorem eqL_len {α : Type} (p : α → α → Bool) : ∀ {l m : List α}, l.length ≠ m.length → eqL p l m = false
  | [], [], h => absurd rfl h
  | [], _ :: _, _ => rfl
  | _ :: _, [], _ => rfl
  | a :: l, b :: m, h => by simp only [eqL, eqL_len p (l := l) (m := m) (fun e => h (by simp [e])), Bool.and_false]

def tEq (a b : Int × Int) : Bool := decide (a.1 = b.1) && decide (a.2 = b.2)
def evSame (a b : Evt) : Bool := decide (a.k = b.k) && (wEq a.w b.w && eqL tEq a.tags b.tags)
def trSame (a b : Tr) : Bool := (decide (a.e = 10) == decide (b.e = 10)) && eqL evSame a.log b.log

theorem slices_Equal_api_Tag_api_Tag_loop (call : CallF) (H : Heap) (l m : List (Int × Int)) (hl : l.length ≤ 9223372036854775807) (hlm : m.length = l.length) (Q : Option (V × Heap) → Prop) (k : List Item)
    (hret : ∀ φ', eqL tEq l m = false → Fr.get φ' 4 = .bool false → Q (retK k φ' H)) (hexit : ∀ φ', eqL tEq l m = true → Q (M call k φ' H)) :
    ∀ (j i : Nat) (φ : Fr), i + j = l.length → eqL tEq l m = eqL tEq (l.drop i) (m.drop i) → Fr.get φ 0 = .sl 2 (l.map tg) → Fr.get φ 1 = .sl 2 (m.map tg) → Fr.get φ 12 = iw l.length → Fr.get φ 13 = iw i →
      Q (M call (.code l_slices_Equal_api_Tag_api_Tag_0 :: .blk 0 :: k) φ H) := by
  intro j
  induction j with
  | zero =>
    intro i φ hj hs h0 h1 h12 h13
    have hi : ¬ ((i : Int) < l.length) := by omega
    rw [List.drop_of_length_le (by omega), List.drop_of_length_le (by omega)] at hs
    rw [l_slices_Equal_api_Tag_api_Tag_0, M_loop, ← l_slices_Equal_api_Tag_api_Tag_0]
    simp [b_slices_Equal_api_Tag_api_Tag_0, h0, h1, h12, h13, hi]
    exact hexit _ (by rw [hs]; rfl)
  | succ j ih =>
    intro i φ hj hs h0 h1 h12 h13
    have hi : (i : Int) < l.length := by omega
    have hil : i < l.length := by omega
    have him : i < m.length := by omega
    obtain ⟨⟨a0, a1⟩, ha, _, hd⟩ := at_some hil
    obtain ⟨⟨b0, b1⟩, hb, _, hd2⟩ := at_some him
    have hra : (l.map tg)[i]? = some [iw a0, iw a1] := by rw [List.getElem?_map, ha]; rfl
    have hrb : (m.map tg)[i]? = some [iw b0, iw b1] := by rw [List.getElem?_map, hb]; rfl
    have hgl : (l.map tg).length = l.length := List.length_map ..
    have hgm : (m.map tg).length = l.length := by rw [List.length_map, hlm]
    have hw1 : IntKind.i64.wrap ((i : Int) + 1) = ((i + 1 : Nat) : Int) := by rw [w64 (by omega) (by omega)]; rfl
    rw [hd, hd2, eqL] at hs
    rw [l_slices_Equal_api_Tag_api_Tag_0, M_loop, ← l_slices_Equal_api_Tag_api_Tag_0]
    by_cases e0 : a0 = b0
    · by_cases e1 : a1 = b1
      · have he : tEq (a0, a1) (b0, b1) = true := by simp [tEq, e0, e1]
        rw [he, Bool.true_and] at hs
        simp [b_slices_Equal_api_Tag_api_Tag_0, h0, h1, h12, h13, hi, hgl, hgm, hra, hrb, eqCells, e0, e1, hw1]
        exact ih (i + 1) _ (by omega) hs (by simp [h0]) (by simp [h1]) (by simp [h12]) (by simp)
      · have he : tEq (a0, a1) (b0, b1) = false := by simp [tEq, e1]
        rw [he, Bool.false_and] at hs
        simp [b_slices_Equal_api_Tag_api_Tag_0, h0, h1, h12, h13, hi, hgl, hgm, hra, hrb, eqCells, e0, e1, hw1]
        exact hret _ hs (by simp)
    · have he : tEq (a0, a1) (b0, b1) = false := by simp [tEq, e0]
      rw [he, Bool.false_and] at hs
      simp [b_slices_Equal_api_Tag_api_Tag_0, h0, h1, h12, h13, hi, hgl, hgm, hra, hrb, eqCells, e0, hw1]
      exact hret _ hs (by simp)

theorem slices_Equal_api_Tag_api_Tag_eq (H : Heap) (l m : List (Int × Int)) (hl : l.length ≤ 9223372036854775807) :
    eval tbl noExt n_slices_Equal_api_Tag_api_Tag [.sl 2 (l.map tg), .sl 2 (m.map tg)] H = some (.bool (eqL tEq l m), H) := by
  rw [eval_M rfl rfl t_slices_Equal_api_Tag_api_Tag rfl]
  by_cases h4 : l.length = m.length
  · have h4' : (l.length : Int) = m.length := by omega
    simp [c_slices_Equal_api_Tag_api_Tag, h4']
    refine slices_Equal_api_Tag_api_Tag_loop _ H l m hl h4.symm (fun o => o = some (.bool (eqL tEq l m), H)) _ (fun φ' hs g => ?_) (fun φ' hs => ?_) l.length 0 _ (by omega) rfl (by simp) (by simp) (by simp [h4]) (by simp)
    · simp [g, hs]
    · simp [r_slices_Equal_api_Tag_api_Tag_0, hs]
  · have h4' : ¬ (l.length : Int) = m.length := by omega
    simp [c_slices_Equal_api_Tag_api_Tag, h4', eqL_len tEq h4]

theorem flotsamref05_Tags_loop (call : CallF) (H : Heap) (l m : List (Int × Int)) (hl : l.length ≤ 9223372036854775807) (hlm : m.length = l.length) (Q : Option (V × Heap) → Prop) (k : List Item)
    (hret : ∀ φ', eqL tEq l m = false → Fr.get φ' 4 = .bool false → Q (retK k φ' H)) (hexit : ∀ φ', eqL tEq l m = true → Q (M call k φ' H)) :
    ∀ (j i : Nat) (φ : Fr), i + j = l.length → eqL tEq l m = eqL tEq (l.drop i) (m.drop i) → Fr.get φ 0 = .sl 2 (l.map tg) → Fr.get φ 1 = .sl 2 (m.map tg) → Fr.get φ 5 = iw i →
      Q (M call (.code l_flotsamref05_Tags_0 :: .blk 0 :: k) φ H) := by
  intro j
  induction j with
  | zero =>
    intro i φ hj hs h0 h1 h5
    have hi : ¬ ((i : Int) < l.length) := by omega
    rw [List.drop_of_length_le (by omega), List.drop_of_length_le (by omega)] at hs
    rw [l_flotsamref05_Tags_0, M_loop, ← l_flotsamref05_Tags_0]
    simp [b_flotsamref05_Tags_0, h0, h1, h5, hi]
    exact hexit _ (by rw [hs]; rfl)
  | succ j ih =>
    intro i φ hj hs h0 h1 h5
    have hi : (i : Int) < l.length := by omega
    have hil : i < l.length := by omega
    have him : i < m.length := by omega
    obtain ⟨⟨a0, a1⟩, ha, _, hd⟩ := at_some hil
    obtain ⟨⟨b0, b1⟩, hb, _, hd2⟩ := at_some him
    have hra : (l.map tg)[i]? = some [iw a0, iw a1] := by rw [List.getElem?_map, ha]; rfl
    have hrb : (m.map tg)[i]? = some [iw b0, iw b1] := by rw [List.getElem?_map, hb]; rfl
    have hgl : (l.map tg).length = l.length := List.length_map ..
    have hgm : (m.map tg).length = l.length := by rw [List.length_map, hlm]
    have hw1 : IntKind.i64.wrap ((i : Int) + 1) = ((i + 1 : Nat) : Int) := by rw [w64 (by omega) (by omega)]; rfl
    rw [hd, hd2, eqL] at hs
    rw [l_flotsamref05_Tags_0, M_loop, ← l_flotsamref05_Tags_0]
    by_cases e0 : a0 = b0
    · by_cases e1 : a1 = b1
      · have he : tEq (a0, a1) (b0, b1) = true := by simp [tEq, e0, e1]
        rw [he, Bool.true_and] at hs
        simp [b_flotsamref05_Tags_0, h0, h1, h5, hi, hgl, hgm, hra, hrb, eqCells, e0, e1, hw1]
        exact ih (i + 1) _ (by omega) hs (by simp [h0]) (by simp [h1]) (by simp)
      · have he : tEq (a0, a1) (b0, b1) = false := by simp [tEq, e1]
        rw [he, Bool.false_and] at hs
        simp [b_flotsamref05_Tags_0, h0, h1, h5, hi, hgl, hgm, hra, hrb, eqCells, e0, e1, hw1]
        exact hret _ hs (by simp)
    · have he : tEq (a0, a1) (b0, b1) = false := by simp [tEq, e0]
      rw [he, Bool.false_and] at hs
      simp [b_flotsamref05_Tags_0, h0, h1, h5, hi, hgl, hgm, hra, hrb, eqCells, e0, hw1]
      exact hret _ hs (by simp)

theorem flotsamref05_Tags_eq (H : Heap) (l m : List (Int × Int)) (hl : l.length ≤ 9223372036854775807) :
    eval tbl noExt n_flotsamref05_Tags [.sl 2 (l.map tg), .sl 2 (m.map tg)] H = some (.bool (eqL tEq l m), H) := by
  rw [eval_M rfl rfl t_flotsamref05_Tags rfl]
  by_cases h4 : l.length = m.length
  · have h4' : (l.length : Int) = m.length := by omega
    simp [c_flotsamref05_Tags, h4']
    refine flotsamref05_Tags_loop _ H l m hl h4.symm (fun o => o = some (.bool (eqL tEq l m), H)) _ (fun φ' hs g => ?_) (fun φ' hs => ?_) l.length 0 _ (by omega) rfl (by simp) (by simp) (by simp)
    · simp [g, hs]
    · simp [r_flotsamref05_Tags_0, hs]
  · have h4' : ¬ (l.length : Int) = m.length := by omega
    simp [c_flotsamref05_Tags, h4', eqL_len tEq h4]

theorem event_eq (a b : Evt) (ha : a.ok) (hb : b.ok) (H : Heap) : eval tbl noExt n_alike_event [.agg a.cells, .agg b.cells] H = some (.bool (evSame a b), H) := by
  have ht := slices_Equal_api_Tag_api_Tag_eq [] a.tags b.tags ha.2
  have hw := wEq_eq ha hb
  have a1 := Evt.len a ha
  have b1 := Evt.len b hb
  have a2 : List.take 36 (List.map V.strip a.cells).tail = a.w.cells := by rw [Evt.strip, Evt.mid a ha]
  have b2 : List.take 36 (List.map V.strip b.cells).tail = b.w.cells := by rw [Evt.strip, Evt.mid b hb]
  have a3 := Evt.get37 a ha
  have b3 := Evt.get37 b hb
  have a4 : ∀ h, a.cells[0]'h = iw a.k := fun _ => rfl
  have b4 : ∀ h, b.cells[0]'h = iw b.k := fun _ => rfl
  have a5 : ∀ h, a.cells[37]'h = .sl 2 (a.tags.map tg) := fun h => by have := List.getElem?_eq_getElem h; rw [a3] at this; exact (Option.some.inj this).symm
  have b5 : ∀ h, b.cells[37]'h = .sl 2 (b.tags.map tg) := fun h => by have := List.getElem?_eq_getElem h; rw [b3] at this; exact (Option.some.inj this).symm
  rw [eval_M rfl rfl t_alike_event rfl]
  by_cases e1 : a.k = b.k
  · cases e2 : wEq a.w b.w with
    | true =>
      rw [e2] at hw
      cases e3 : eqL tEq a.tags b.tags <;> rw [e3] at ht <;> simp [c_alike_event, get0, get1, a1, b1, a2, b2, a3, b3, a4, b4, a5, b5, e1, hw, ht, evSame, e2, e3, lt_slices_Equal_api_Tag_api_Tag]
    | false =>
      rw [e2] at hw
      simp [c_alike_event, get0, get1, a1, b1, a2, b2, a3, b3, a4, b4, e1, hw, evSame, e2]
  · simp [c_alike_event, get0, get1, a1, b1, a2, b2, a3, b3, a4, b4, e1, evSame]

end Go.AM.Spec

namespace Go.AM.Spec
set_option linter.unusedVariables false
set_option linter.unusedSimpArgs false
set_option maxHeartbeats 4000000
set_option maxRecDepth 10000

theorem take_more' {K H : Heap} {n : Nat} (h : K.take n = H) (hn : n ≤ K.length) (r : Heap) : (K ++ r).take n = H := take_more h hn r

theorem evf_loop (call : CallF) (N : Nat) (H : Heap) (l m : List Evt) (hl : l.length ≤ 9223372036854775807) (hlm : m.length = l.length) (okl : ∀ e ∈ l, e.ok) (okm : ∀ e ∈ m, e.ok)
    (hf : ∀ a b, a.ok → b.ok → ∀ K, call n_alike_event [.agg (Evt.cells a), .agg (Evt.cells b)] K = some (.bool (evSame a b), K)) (Q : Option (V × Heap) → Prop) (k : List Item)
    (hret : ∀ φ' K, eqL evSame l m = false → K.take N = H → N ≤ K.length → Fr.get φ' 6 = .bool false → Q (retK k φ' K)) (hexit : ∀ φ' K, eqL evSame l m = true → K.take N = H → N ≤ K.length → Q (M call k φ' K)) :
    ∀ (j i : Nat) (φ : Fr) (K : Heap), i + j = l.length → K.take N = H → N ≤ K.length → eqL evSame l m = eqL evSame (l.drop i) (m.drop i) → Fr.get φ 1 = .sl 38 (m.map Evt.cells) → Fr.get φ 2 = .fn (.func n_alike_event) [] [] → Fr.get φ 15 = .sl 38 (l.map Evt.cells) → Fr.get φ 16 = .int .i64 l.length → Fr.get φ 17 = .int .i64 i →
      Q (M call (.code l_slices_EqualFunc_api_Event_api_Event_api_Event_api_Event_0 :: .blk 0 :: k) φ K) := by
  intro j
  induction j with
  | zero =>
    intro i φ K hj hK hn hs h1 h2 h15 h16 h17
    have hi : ¬ ((i : Int) < l.length) := by omega
    rw [List.drop_of_length_le (by omega), List.drop_of_length_le (by omega)] at hs
    rw [l_slices_EqualFunc_api_Event_api_Event_api_Event_api_Event_0, M_loop, ← l_slices_EqualFunc_api_Event_api_Event_api_Event_api_Event_0]
    simp [b_slices_EqualFunc_api_Event_api_Event_api_Event_api_Event_0, h1, h2, h15, h16, h17, hi]
    exact hexit _ _ (by rw [hs]; rfl) hK hn
  | succ j ih =>
    intro i φ K hj hK hn hs h1 h2 h15 h16 h17
    have hi : (i : Int) < l.length := by omega
    have hil : i < l.length := by omega
    have him : i < m.length := by omega
    obtain ⟨a, ha, hmem, hd⟩ := at_some hil
    obtain ⟨b, hb, hmem2, hd2⟩ := at_some him
    have oka := okl a hmem
    have okb := okm b hmem2
    have hra : (l.map Evt.cells)[i]? = some (Evt.cells a) := by rw [List.getElem?_map, ha]; rfl
    have hrb : (m.map Evt.cells)[i]? = some (Evt.cells b) := by rw [List.getElem?_map, hb]; rfl
    have hgl : (l.map Evt.cells).length = l.length := List.length_map ..
    have hgm : (m.map Evt.cells).length = l.length := by rw [List.length_map, hlm]
    have hw1 : IntKind.i64.wrap ((i : Int) + 1) = ((i + 1 : Nat) : Int) := by rw [w64 (by omega) (by omega)]; rfl
    have hcall := hf a b oka okb
    have a1 := Evt.len a oka
    have b1 := Evt.len b okb
    have a2 := Evt.strip a
    have b2 := Evt.strip b
    have a3 := Evt.one a
    have b3 := Evt.one b
    have a4 := Evt.under a
    have b4 := Evt.under b
    have a5 := Evt.take a oka
    have b5 := Evt.take b okb
    have a6 := Evt.put a oka
    have b6 := Evt.put b okb
    rw [hd, hd2, eqL] at hs
    rw [l_slices_EqualFunc_api_Event_api_Event_api_Event_api_Event_0, M_loop, ← l_slices_EqualFunc_api_Event_api_Event_api_Event_api_Event_0]
    cases hv : evSame a b with
    | false =>
      rw [hv, Bool.false_and] at hs
      rw [hv] at hcall
      simp [-List.all_eq_true, b_slices_EqualFunc_api_Event_api_Event_api_Event_api_Event_0, h1, h2, h15, h16, h17, hi, hgl, hgm, hra, hrb, hcall, get0, set0, get1, set1, lt_alike_event, a1, b1, a2, b2, a3, b3, a4, b4, a5, b5, a6, b6]
      exact hret _ _ hs (take_more hK hn _) (by simp; omega) (by simp)
    | true =>
      rw [hv, Bool.true_and] at hs
      rw [hv] at hcall
      simp [-List.all_eq_true, b_slices_EqualFunc_api_Event_api_Event_api_Event_api_Event_0, h1, h2, h15, h16, h17, hi, hgl, hgm, hra, hrb, hcall, get0, set0, get1, set1, lt_alike_event, hw1, a1, b1, a2, b2, a3, b3, a4, b4, a5, b5, a6, b6]
      exact ih (i + 1) _ _ (by omega) (take_more hK hn _) (by simp; omega) hs (by simp [h1]) (by simp [h2]) (by simp [h15]) (by simp [h16]) (by simp)

theorem evf_eq (H : Heap) (l m : List Evt) (hl : l.length ≤ 9223372036854775807) (okl : ∀ e ∈ l, e.ok) (okm : ∀ e ∈ m, e.ok) :
    eval tbl noExt n_slices_EqualFunc_api_Event_api_Event_api_Event_api_Event [.sl 38 (l.map Evt.cells), .sl 38 (m.map Evt.cells), .fn (.func n_alike_event) [] []] H = some (.bool (eqL evSame l m), H) := by
  rw [eval_M rfl rfl t_slices_EqualFunc_api_Event_api_Event_api_Event_api_Event rfl]
  by_cases h4 : l.length = m.length
  · have h4' : (l.length : Int) = m.length := by omega
    simp [c_slices_EqualFunc_api_Event_api_Event_api_Event_api_Event, h4']
    refine evf_loop _ H.length H l m hl h4.symm okl okm (fun a b ha hb K => event_eq a b ha hb K) (fun o => o = some (.bool (eqL evSame l m), H)) _ (fun φ' K hs hK hn g => ?_) (fun φ' K hs hK hn => ?_) l.length 0 _ _ (by omega) (by simp) (Nat.le_refl _) rfl (by simp) (by simp) (by simp) (by simp [h4]) (by simp)
    · simp [g, hs, hK]
    · simp [r_slices_EqualFunc_api_Event_api_Event_api_Event_api_Event_0, hs, hK]
  · have h4' : ¬ (l.length : Int) = m.length := by omega
    simp [c_slices_EqualFunc_api_Event_api_Event_api_Event_api_Event, h4', eqL_len evSame h4]

theorem Same_1_eq (t : Tr) (H : Heap) : eval tbl noExt n_alike_Same_1 [.agg t.cells] H = some (.bool (decide (t.e = 10)), H) := by
  rw [eval_M rfl rfl t_alike_Same_1 rfl]
  by_cases h : t.e = 10 <;> simp [c_alike_Same_1, Tr.cells, get0, h]

theorem Same_eq (a b : Tr) (ha : a.ok) (hb : b.ok) : eval tbl noExt n_alike_Same [.agg a.cells, .agg b.cells] [] = some (.bool (trSame a b), []) := by
  have h1 := Same_1_eq a []
  have h2 := Same_1_eq b []
  have h3 := evf_eq [] a.log b.log ha.2 ha.1 hb.1
  rw [eval_M rfl rfl t_alike_Same rfl]
  unfold trSame
  simp only [Tr.cells] at h1 h2 ⊢
  by_cases x : a.e = 10 <;> by_cases y : b.e = 10 <;> cases hv : eqL evSame a.log b.log <;> rw [hv] at h3 <;>
    simp [x, y] at h1 h2 <;> simp [c_alike_Same, get0, get1, h1, h2, h3, x, y, hv, lt_alike_Same_1, lt_slices_EqualFunc_api_Event_api_Event_api_Event_api_Event]

theorem rev_loop (H : Heap) (l m : List Evt) (hl : l.length ≤ 9223372036854775807) (hlm : m.length = l.length) (okl : ∀ e ∈ l, e.ok) (okm : ∀ e ∈ m, e.ok) (Q : Option (V × Heap) → Prop) (k : List Item)
    (hret : ∀ φ', eqL evSame l m = false → Fr.get φ' 4 = .bool false → Q (retK k φ' H)) (hexit : ∀ φ', eqL evSame l m = true → Q (M (eval tbl noExt) k φ' H)) :
    ∀ (j i : Nat) (φ : Fr), i + j = l.length → eqL evSame l m = eqL evSame (l.drop i) (m.drop i) → Fr.get φ 0 = .sl 38 (l.map Evt.cells) → Fr.get φ 1 = .sl 38 (m.map Evt.cells) → Fr.get φ 5 = iw i →
      Q (M (eval tbl noExt) (.code l_flotsamref05_Events_0 :: .blk 0 :: k) φ H) := by
  intro j
  induction j with
  | zero =>
    intro i φ hj hs h0 h1 h5
    have hi : ¬ ((i : Int) < l.length) := by omega
    rw [List.drop_of_length_le (by omega), List.drop_of_length_le (by omega)] at hs
    rw [l_flotsamref05_Events_0, M_loop, ← l_flotsamref05_Events_0]
    simp [b_flotsamref05_Events_0, h0, h1, h5, hi]
    exact hexit _ (by rw [hs]; rfl)
  | succ j ih =>
    intro i φ hj hs h0 h1 h5
    have hi : (i : Int) < l.length := by omega
    have hil : i < l.length := by omega
    have him : i < m.length := by omega
    obtain ⟨a, ha', hmem, hd⟩ := at_some hil
    obtain ⟨b, hb', hmem2, hd2⟩ := at_some him
    have ha := okl a hmem
    have hb := okm b hmem2
    have hra : (l.map Evt.cells)[i]? = some (Evt.cells a) := by rw [List.getElem?_map, ha']; rfl
    have hrb : (m.map Evt.cells)[i]? = some (Evt.cells b) := by rw [List.getElem?_map, hb']; rfl
    have hgl : (l.map Evt.cells).length = l.length := List.length_map ..
    have hgm : (m.map Evt.cells).length = l.length := by rw [List.length_map, hlm]
    have hw1 : IntKind.i64.wrap ((i : Int) + 1) = ((i + 1 : Nat) : Int) := by rw [w64 (by omega) (by omega)]; rfl
    have ht := flotsamref05_Tags_eq [] a.tags b.tags ha.2
    have hw := wEq_eq ha hb
    have a1 := Evt.len a ha
    have b1 := Evt.len b hb
    have a2 : List.take 36 (List.map V.strip a.cells).tail = a.w.cells := by rw [Evt.strip, Evt.mid a ha]
    have b2 : List.take 36 (List.map V.strip b.cells).tail = b.w.cells := by rw [Evt.strip, Evt.mid b hb]
    have a3 := Evt.get37 a ha
    have b3 := Evt.get37 b hb
    have a4 : ∀ h, a.cells[0]'h = iw a.k := fun _ => rfl
    have b4 : ∀ h, b.cells[0]'h = iw b.k := fun _ => rfl
    have a5 : ∀ h, a.cells[37]'h = .sl 2 (a.tags.map tg) := fun h => by have := List.getElem?_eq_getElem h; rw [a3] at this; exact (Option.some.inj this).symm
    have b5 : ∀ h, b.cells[37]'h = .sl 2 (b.tags.map tg) := fun h => by have := List.getElem?_eq_getElem h; rw [b3] at this; exact (Option.some.inj this).symm
    rw [hd, hd2, eqL] at hs
    rw [l_flotsamref05_Events_0, M_loop, ← l_flotsamref05_Events_0]
    by_cases e1 : a.k = b.k
    · cases e2 : wEq a.w b.w with
      | true =>
        rw [e2] at hw
        cases e3 : eqL tEq a.tags b.tags with
        | true =>
          rw [e3] at ht
          have hv : evSame a b = true := by simp [evSame, e1, e2, e3]
          rw [hv, Bool.true_and] at hs
          simp [b_flotsamref05_Events_0, h0, h1, h5, hi, hgl, hgm, hra, hrb, a1, b1, a2, b2, a3, b3, a4, b4, a5, b5, e1, hw, ht, hw1]
          exact ih (i + 1) _ (by omega) hs (by simp [h0]) (by simp [h1]) (by simp)
        | false =>
          rw [e3] at ht
          have hv : evSame a b = false := by simp [evSame, e3]
          rw [hv, Bool.false_and] at hs
          simp [b_flotsamref05_Events_0, h0, h1, h5, hi, hgl, hgm, hra, hrb, a1, b1, a2, b2, a3, b3, a4, b4, a5, b5, e1, hw, ht, hw1]
          exact hret _ hs (by simp)
      | false =>
        rw [e2] at hw
        have hv : evSame a b = false := by simp [evSame, e2]
        rw [hv, Bool.false_and] at hs
        simp [b_flotsamref05_Events_0, h0, h1, h5, hi, hgl, hgm, hra, hrb, a1, b1, a2, b2, a3, b3, a4, b4, a5, b5, e1, hw, hw1]
        exact hret _ hs (by simp)
    · have hv : evSame a b = false := by simp [evSame, e1]
      rw [hv, Bool.false_and] at hs
      simp [b_flotsamref05_Events_0, h0, h1, h5, hi, hgl, hgm, hra, hrb, a1, b1, a2, b2, a3, b3, a4, b4, a5, b5, e1, hw1]
      exact hret _ hs (by simp)

theorem Events_eq (H : Heap) (l m : List Evt) (hl : l.length ≤ 9223372036854775807) (okl : ∀ e ∈ l, e.ok) (okm : ∀ e ∈ m, e.ok) :
    eval tbl noExt n_flotsamref05_Events [.sl 38 (l.map Evt.cells), .sl 38 (m.map Evt.cells)] H = some (.bool (eqL evSame l m), H) := by
  rw [eval_M rfl rfl t_flotsamref05_Events rfl]
  by_cases h4 : l.length = m.length
  · have h4' : (l.length : Int) = m.length := by omega
    simp [c_flotsamref05_Events, h4']
    refine rev_loop H l m hl h4.symm okl okm (fun o => o = some (.bool (eqL evSame l m), H)) _ (fun φ' hs g => ?_) (fun φ' hs => ?_) l.length 0 _ (by omega) rfl (by simp) (by simp) (by simp)
    · simp [g, hs]
    · simp [r_flotsamref05_Events_0, hs]
  · have h4' : ¬ (l.length : Int) = m.length := by omega
    simp [c_flotsamref05_Events, h4', eqL_len evSame h4]

theorem refSame_eq (a b : Tr) (ha : a.ok) (hb : b.ok) : eval tbl noExt n_flotsamref41_Same [.agg a.cells, .agg b.cells] [] = some (.bool (trSame a b), []) := by
  have h3 := Events_eq [] a.log b.log ha.2 ha.1 hb.1
  rw [eval_M rfl rfl t_flotsamref41_Same rfl]
  unfold trSame
  simp only [Tr.cells]
  by_cases x : a.e = 10 <;> by_cases y : b.e = 10 <;> cases hv : eqL evSame a.log b.log <;> rw [hv] at h3 <;> simp [c_flotsamref41_Same, get0, get1, h3, x, y, hv, lt_flotsamref05_Events]

/-! ## The document's trace as the program's -/
def stv (l : List (List V)) : V := if l = [] then .nils 5 else .own 5 l
abbrev TH (t z : List V) (L : V) (R : List (List V)) (e f : Int) (n : Nat) : Heap := [some t, some z, some [L, stv (R.take n), iw e, iw f]]

theorem Trace_loop (call : CallF) (L : V) (R : List (List V)) (e f : Int) (hs : R.length ≤ 40) (hR : ∀ i, i < R.length → ∃ a b c d g, R[i]? = some [iw a, iw b, iw c, iw d, iw g]) (z : List V) (Q : Option (V × Heap) → Prop) (k : List Item)
    (hexit : ∀ φ', Fr.get φ' 2 = .ptr 1 0 → Fr.get φ' 3 = .ptr 2 0 → Q (M call k φ' (TH [L, .sl 5 R, iw e, iw f] z L R e f R.length))) :
    ∀ (j i : Nat) (φ : Fr), i + j = R.length → Fr.get φ 1 = .ptr 0 0 → Fr.get φ 2 = .ptr 1 0 → Fr.get φ 3 = .ptr 2 0 → Fr.get φ 4 = iw i →
      Q (M call (.code l_flotsamlaw24_Trace_0 :: .blk 0 :: k) φ (TH [L, .sl 5 R, iw e, iw f] z L R e f i)) := by
  intro j
  induction j with
  | zero =>
    intro i φ hj h1 h2 h3 h4
    have hi : ¬ ((i : Int) < R.length) := by omega
    obtain rfl : i = R.length := by omega
    rw [l_flotsamlaw24_Trace_0, M_loop, ← l_flotsamlaw24_Trace_0]
    simp [b_flotsamlaw24_Trace_0, h1, h2, h3, h4, TH]
    have g := hexit
    simp only [TH, List.take_length] at g
    exact g _ (by simp [h2]) (by simp [h3])
  | succ j ih =>
    intro i φ hj h1 h2 h3 h4
    have hi : (i : Int) < R.length := by omega
    have hil : i < R.length := by omega
    obtain ⟨a, b, c, d, q, hr⟩ := hR i hil
    have hge : ∀ h, R[i]'h = [iw a, iw b, iw c, iw d, iw q] := fun h => by have := List.getElem?_eq_getElem h; rw [hr] at this; exact (Option.some.inj this).symm
    have hw1 : IntKind.i64.wrap ((i : Int) + 1) = ((i + 1 : Nat) : Int) := by rw [w64 (by omega) (by omega)]; rfl
    have htk : R.take (i + 1) = R.take i ++ [[iw a, iw b, iw c, iw d, iw q]] := by rw [List.take_add_one, hr]; rfl
    have hne : R.take (i + 1) ≠ [] := by rw [htk]; simp
    have hst : stv (R.take (i + 1)) = .own 5 (R.take i ++ [[iw a, iw b, iw c, iw d, iw q]]) := by rw [stv, if_neg hne, htk]
    have hlen : (R.take i).length = i := by rw [List.length_take]; omega
    have hap : 2 * (i + 1) * 40 ≤ 281474976710656 := by omega
    have w1 : IntKind.i64.wrap 1 = 1 := by rw [w64 (by omega) (by omega)]
    have goal := ih (i + 1)
    simp only [TH, hst] at goal ⊢
    rw [l_flotsamlaw24_Trace_0, M_loop, ← l_flotsamlaw24_Trace_0]
    generalize R.take i = U at *
    by_cases h0 : U = []
    · have hst0 : stv U = .nils 5 := by rw [stv, if_pos h0]
      have hst1 : stv [] = .nils 5 := rfl
      have hi0 : i = 0 := by rw [h0] at hlen; simpa using hlen.symm
      subst hi0
      simp [b_flotsamlaw24_Trace_0, h1, h2, h3, h4, hst0, hst1, hr, hge, hil, hw1]
      rw [h0] at goal
      refine goal _ (by omega) ?_ ?_ ?_ ?_ <;> simp [h1, h2, h3, w1]
    · have hst0 : stv U = .own 5 U := by rw [stv, if_neg h0]
      simp [b_flotsamlaw24_Trace_0, h1, h2, h3, h4, hst0, hr, hge, hil, hw1, hlen, hap]
      refine goal _ (by omega) ?_ ?_ ?_ ?_ <;> simp [h1, h2, h3, w1]

theorem stv_or (l : List (List V)) : (stv l = .nils 5 ∧ l = []) ∨ stv l = .own 5 l := by
  unfold stv
  split
  · exact .inl ⟨rfl, ‹_›⟩
  · exact .inr rfl

theorem Trace_eq (t : Tr) (hs : t.steps.length ≤ 40) : eval tbl noExt n_flotsamlaw24_Trace [.agg t.cells] [] = some (.agg t.cells, []) := by
  have hR : ∀ i, i < (t.steps.map s5).length → ∃ a b c d g, (t.steps.map s5)[i]? = some [iw a, iw b, iw c, iw d, iw g] := fun i hi => by
    obtain ⟨x, hx, _, _⟩ := at_some (l := t.steps) (i := i) (by simpa using hi)
    exact ⟨x.1, x.2.1, x.2.2.1, x.2.2.2.1, x.2.2.2.2, by rw [List.getElem?_map, hx]; rfl⟩
  have hl : (t.steps.map s5).length ≤ 40 := by simpa using hs
  simp only [Tr.cells]
  generalize t.steps.map s5 = R at *
  generalize t.log.map Evt.cells = X at *
  have hz : stv (R.take 0) = .nils 5 := rfl
  rw [eval_M rfl rfl t_flotsamlaw24_Trace rfl]
  simp [c_flotsamlaw24_Trace]
  have key := Trace_loop (eval tbl noExt) (.sl 38 X) R t.e t.fuel hl hR [.own 38 [], .own 5 [], iw 0, iw 0] (fun o => o = some (.agg [.sl 38 X, .sl 5 R, iw t.e, iw t.fuel], [])) [.code r_flotsamlaw24_Trace_0, .fin [.cell 2 (some 4)] 0] (fun φ' g2 g3 => by
    rcases stv_or R with ⟨e1, e2⟩ | e1
    · have e3 : stv [] = .nils 5 := rfl
      simp [r_flotsamlaw24_Trace_0, TH, g2, g3, e1, e2, e3]
    · simp [r_flotsamlaw24_Trace_0, TH, g2, g3, e1]) R.length 0
  simp only [TH, hz] at key
  refine key _ (by omega) ?_ ?_ ?_ ?_ <;> simp

theorem Log_loop (l : List Evt) (hl : l.length ≤ 9223372036854775807) (okl : ∀ e ∈ l, e.ok) (Q : Option (V × Heap) → Prop) (k : List Item)
    (hret : ∀ φ', Fr.get φ' 4 = .bool false → Q (retK k φ' [])) (hexit : ∀ φ', Fr.get φ' 0 = .sl 38 (l.map Evt.cells) → Fr.get φ' 1 = iw 80 → Q (M (eval tbl noExt) k φ' [])) :
    ∀ (j i : Nat) (φ : Fr), i + j = l.length → Fr.get φ 0 = .sl 38 (l.map Evt.cells) → Fr.get φ 1 = iw 80 → Fr.get φ 5 = iw i →
      Q (M (eval tbl noExt) (.code l_flotsamlaw06_Log_0 :: .blk 0 :: k) φ []) := by
  intro j
  induction j with
  | zero =>
    intro i φ hj h0 h1 h5
    have hi : ¬ ((i : Int) < l.length) := by omega
    rw [l_flotsamlaw06_Log_0, M_loop, ← l_flotsamlaw06_Log_0]
    simp [b_flotsamlaw06_Log_0, h0, h1, h5, hi]
    exact hexit _ (by simp [h0]) (by simp [h1])
  | succ j ih =>
    intro i φ hj h0 h1 h5
    have hi : (i : Int) < l.length := by omega
    have hil : i < l.length := by omega
    obtain ⟨a, ha', hmem, hd⟩ := at_some hil
    have ha := okl a hmem
    have hra : (l.map Evt.cells)[i]? = some (Evt.cells a) := by rw [List.getElem?_map, ha']; rfl
    have hgl : (l.map Evt.cells).length = l.length := List.length_map ..
    have hw1 : IntKind.i64.wrap ((i : Int) + 1) = ((i + 1 : Nat) : Int) := by rw [w64 (by omega) (by omega)]; rfl
    have a1 := Evt.len a ha
    have a3 := Evt.get37 a ha
    have a5 : ∀ h, a.cells[37]'h = .sl 2 (a.tags.map tg) := fun h => by have := List.getElem?_eq_getElem h; rw [a3] at this; exact (Option.some.inj this).symm
    rw [l_flotsamlaw06_Log_0, M_loop, ← l_flotsamlaw06_Log_0]
    by_cases h4 : (i : Int) < 400
    · by_cases h6 : (50 : Int) < a.tags.length
      · simp [b_flotsamlaw06_Log_0, h0, h1, h5, hi, hgl, hra, a1, a3, a5, h4, h6, hw1]
        exact hret _ (by simp)
      · simp [b_flotsamlaw06_Log_0, h0, h1, h5, hi, hgl, hra, a1, a3, a5, h4, h6, hw1]
        exact ih (i + 1) _ (by omega) (by simp [h0]) (by simp [h1]) (by simp)
    · simp [b_flotsamlaw06_Log_0, h0, h1, h5, hi, h4]
      exact hexit _ (by simp [h0]) (by simp [h1])

theorem Log_ex (l : List Evt) (hl : l.length ≤ 9223372036854775807) (okl : ∀ e ∈ l, e.ok) : ∃ b, eval tbl noExt n_flotsamlaw06_Log [.sl 38 (l.map Evt.cells), iw 80] [] = some (.bool b, []) := by
  rw [eval_M rfl rfl t_flotsamlaw06_Log rfl]
  simp [c_flotsamlaw06_Log, -Bool.exists_bool]
  refine Log_loop l hl okl (fun o => ∃ b, o = some (.bool b, [])) _ (fun φ' g => ?_) (fun φ' g0 g1 => ?_) l.length 0 _ (by omega) (by simp) (by simp) (by simp)
  · exact ⟨false, by simp [g]⟩
  · exact ⟨decide ((l.length : Int) ≤ 80), by simp [r_flotsamlaw06_Log_0, g0, g1]⟩

end Go.AM.Spec

namespace Go.AM
set_option linter.unusedVariables false
set_option linter.unusedSimpArgs false
namespace Spec
open Go.ChangeShapes Go.WideShapes Go.Deep

section
variable {P : Program}

theorem bytes_of {e : TypeId} (he : P.underlying e = some (.int .u8)) : ∀ {parts : List (List V)}, (∀ p ∈ parts, Ty P e p) → ∃ l : List UInt8, parts.flatten = bys l ∧ l.length = parts.length
  | [], _ => ⟨[], rfl, rfl⟩
  | p :: parts, h => by
    obtain ⟨l, h1, h2⟩ := bytes_of he (parts := parts) (fun q hq => h q (by simp [hq]))
    obtain ⟨n, rfl, hw⟩ := Ty_int_of (h p (by simp)) he
    have hr : 0 ≤ n ∧ n < 256 := by
      simp only [Lit.wf, Bool.and_eq_true, decide_eq_true_eq] at hw
      rw [show IntKind.u8.min = 0 from rfl, show IntKind.u8.max = 255 from rfl] at hw
      omega
    refine ⟨UInt8.ofNat n.toNat :: l, ?_, by simp [h2]⟩
    have e1 : ((UInt8.ofNat n.toNat).toNat : Int) = n := by
      rw [UInt8.toNat_ofNat']
      omega
    rw [List.flatten_cons, h1]
    show V.int .u8 n :: bys l = u8 ((UInt8.ofNat n.toNat).toNat : Int) :: bys l
    rw [e1]

theorem sec_of {t e : TypeId} {vs : List V} (h : Ty P t vs) (hu : P.underlying t = some (.array 32 e)) (he : P.underlying e = some (.int .u8)) : ∃ l : List UInt8, vs = bys l ∧ l.length = 32 := by
  obtain ⟨parts, rfl, hl, hp⟩ := Ty_arr_of h hu
  obtain ⟨l, h1, h2⟩ := bytes_of he hp
  exact ⟨l, h1, by rw [h2, hl]⟩

theorem tag_of {tI tG : TypeId} {gs : Array Field} {vs : List V} (h : Ty P tG vs) (hI : P.underlying tI = some (.int .i64)) (hG : P.underlying tG = some (.struct gs)) (hg : gs.toList.map (·.type) = [tI, tI]) : ∃ x : Int × Int, vs = tg x := by
  obtain ⟨ps, rfl, hps⟩ := Ty_struct_of h hG
  rw [hg] at hps
  obtain ⟨p, q, rfl, g0, g1⟩ := TyL_2 hps
  obtain ⟨k, rfl, _⟩ := Ty_int_of g0 hI
  obtain ⟨i, rfl, _⟩ := Ty_int_of g1 hI
  exact ⟨(k, i), rfl⟩

theorem write_of {tI tV tG tB t : TypeId} {fs gs : Array Field} {vs : List V} (h : Ty P t vs) (hu : P.underlying t = some (.struct fs)) (hf : fs.toList.map (·.type) = [tI, tV, tG, tI])
    (hI : P.underlying tI = some (.int .i64)) (hV : P.underlying tV = some (.array 32 tB)) (hB : P.underlying tB = some (.int .u8)) (hG : P.underlying tG = some (.struct gs)) (hg : gs.toList.map (·.type) = [tI, tI]) : ∃ x : Wr, vs = x.cells ∧ x.s.length = 32 := by
  obtain ⟨parts, rfl, hl⟩ := Ty_struct_of h hu
  rw [hf] at hl
  obtain ⟨p, q, r, s, rfl, h0, h1, h2, h3⟩ := TyL_4 hl
  obtain ⟨a, rfl, _⟩ := Ty_int_of h0 hI
  obtain ⟨l, rfl, hsl⟩ := sec_of h1 hV hB
  obtain ⟨g, rfl⟩ := tag_of h2 hI hG hg
  obtain ⟨e, rfl, _⟩ := Ty_int_of h3 hI
  exact ⟨⟨a, l, g.1, g.2, e⟩, by simp [Wr.cells, tg], hsl⟩

theorem rows_of {α : Type} {t : TypeId} {f : α → List V} {p : α → Prop} (h : ∀ vs, Ty P t vs → ∃ x, vs = f x ∧ p x) : ∀ {rows : List (List V)}, (∀ r ∈ rows, Ty P t r) → ∃ l : List α, rows = l.map f ∧ ∀ x ∈ l, p x
  | [], _ => ⟨[], rfl, by simp⟩
  | r :: rows, hr => by
    obtain ⟨l, rfl, h2⟩ := rows_of h (rows := rows) (fun q hq => hr q (by simp [hq]))
    obtain ⟨x, rfl, hx⟩ := h r (hr r (by simp))
    refine ⟨x :: l, rfl, fun q hq => ?_⟩
    rcases List.mem_cons.1 hq with rfl | hq
    · exact hx
    · exact h2 q hq

/-- The types that a trace is made of. -/
structure TrTys (P : Program) (t tLE tLS tR tI tE tW tLT tV tB tG tS : TypeId) : Prop where
  t : ∃ fs, P.underlying t = some (.struct fs) ∧ fs.toList.map (·.type) = [tLE, tLS, tR, tI]
  le : P.underlying tLE = some (.slice tE)
  ls : P.underlying tLS = some (.slice tS)
  r : P.underlying tR = some (.int .i64)
  i : P.underlying tI = some (.int .i64)
  e : ∃ fs, P.underlying tE = some (.struct fs) ∧ fs.toList.map (·.type) = [tI, tW, tLT]
  w : ∃ fs, P.underlying tW = some (.struct fs) ∧ fs.toList.map (·.type) = [tI, tV, tG, tI]
  lt : P.underlying tLT = some (.slice tG)
  v : P.underlying tV = some (.array 32 tB)
  b : P.underlying tB = some (.int .u8)
  g : ∃ fs, P.underlying tG = some (.struct fs) ∧ fs.toList.map (·.type) = [tI, tI]
  s : ∃ fs, P.underlying tS = some (.struct fs) ∧ fs.toList.map (·.type) = [tI, tI, tI, tI, tR]
  ce : P.cellsOf tE = 38
  cs : P.cellsOf tS = 5
  cg : P.cellsOf tG = 2

variable {t tLE tLS tR tI tE tW tLT tV tB tG tS : TypeId}

theorem maxLen_le : maxLen ≤ 9223372036854775807 := by decide

theorem event_of (T : TrTys P t tLE tLS tR tI tE tW tLT tV tB tG tS) {vs : List V} (h : Ty P tE vs) : ∃ x : Evt, vs = x.cells ∧ x.ok := by
  obtain ⟨fs, hu, hf⟩ := T.e
  obtain ⟨gs, hw, hwf⟩ := T.w
  obtain ⟨ks, hk, hkf⟩ := T.g
  obtain ⟨parts, rfl, hl⟩ := Ty_struct_of h hu
  rw [hf] at hl
  match parts, hl with
  | [p, q, r], ⟨h0, h1, h2, _⟩ =>
    obtain ⟨a, rfl, _⟩ := Ty_int_of h0 T.i
    obtain ⟨w, rfl, hw⟩ := write_of h1 hw hwf T.i T.v T.b hk hkf
    obtain ⟨rows, rfl, hlen, hel⟩ := Ty_sl_of h2 T.lt
    obtain ⟨l, rfl, _⟩ := rows_of (f := tg) (p := fun _ => True) (fun vs h => by obtain ⟨x, hx⟩ := tag_of h T.i hk hkf; exact ⟨x, hx, trivial⟩) hel
    have hb : l.length ≤ maxLen := by simpa [Len] using hlen
    exact ⟨⟨a, w, l⟩, by simp [Evt.cells, T.cg], hw, Nat.le_trans hb maxLen_le⟩

theorem step_of (T : TrTys P t tLE tLS tR tI tE tW tLT tV tB tG tS) {vs : List V} (h : Ty P tS vs) : ∃ x : Stp, vs = s5 x := by
  obtain ⟨fs, hu, hf⟩ := T.s
  obtain ⟨parts, rfl, hl⟩ := Ty_struct_of h hu
  rw [hf] at hl
  match parts, hl with
  | [p, q, r, u, v], ⟨h0, h1, h2, h3, h4, _⟩ =>
    obtain ⟨a, rfl, _⟩ := Ty_int_of h0 T.i
    obtain ⟨b, rfl, _⟩ := Ty_int_of h1 T.i
    obtain ⟨c, rfl, _⟩ := Ty_int_of h2 T.i
    obtain ⟨d, rfl, _⟩ := Ty_int_of h3 T.i
    obtain ⟨e, rfl, _⟩ := Ty_int_of h4 T.r
    exact ⟨(a, b, c, d, e), rfl⟩

theorem trace_of (T : TrTys P t tLE tLS tR tI tE tW tLT tV tB tG tS) {vs : List V} (h : Ty P t vs) : ∃ x : Tr, vs = x.cells ∧ x.ok := by
  obtain ⟨fs, hu, hf⟩ := T.t
  obtain ⟨parts, rfl, hl⟩ := Ty_struct_of h hu
  rw [hf] at hl
  obtain ⟨p, q, r, s, rfl, h0, h1, h2, h3⟩ := TyL_4 hl
  obtain ⟨r1, rfl, l1, e1⟩ := Ty_sl_of h0 T.le
  obtain ⟨r2, rfl, l2, e2⟩ := Ty_sl_of h1 T.ls
  obtain ⟨a, rfl, _⟩ := Ty_int_of h2 T.r
  obtain ⟨b, rfl, _⟩ := Ty_int_of h3 T.i
  obtain ⟨evs, rfl, hev⟩ := rows_of (f := Evt.cells) (p := Evt.ok) (fun vs h => event_of T h) e1
  obtain ⟨sts, rfl, _⟩ := rows_of (f := s5) (p := fun _ => True) (fun vs h => by obtain ⟨x, hx⟩ := step_of T h; exact ⟨x, hx, trivial⟩) e2
  refine ⟨⟨evs, sts, a, b⟩, by simp [Tr.cells, T.ce, T.cs], hev, ?_⟩
  have : evs.length ≤ maxLen := by simpa [Len] using l1
  exact Nat.le_trans this maxLen_le

end
end Spec
end Go.AM
