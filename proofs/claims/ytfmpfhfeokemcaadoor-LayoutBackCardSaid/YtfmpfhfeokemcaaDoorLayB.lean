/-
  Directories: entries and their sectors, in the program and in the document.
-/
import Derived.Test.YtfmpfhfeokemcaaDoorLayA
import Derived.Test.YtfmpfhfeokemcaaDoorTyl
namespace Go.AM.Spec
set_option linter.unusedVariables false
set_option linter.unusedSimpArgs false
set_option maxHeartbeats 2000000
set_option maxRecDepth 10000

abbrev u8 (n : Int) : V := .int .u8 n

/-- An entry. -/
structure En where
  used : Bool
  parent : Int
  name : List UInt8
  target : Int
  deriving DecidableEq

def En.cells (x : En) : List V := [.bool x.used, iw x.parent, .str x.name, iw x.target]
def zeroEn : En := ⟨false, 0, [], 0⟩
def En.right (x : En) : Bool := if x.used = true then (decide (0 ≤ x.parent) && decide (x.parent < 16)) && ((decide (1 ≤ x.target) && decide (x.target < 16)) && nameOK x.name) else decide (x = zeroEn)

theorem in_eq (n low : Int) (H : Heap) : eval tbl noExt n_layout_RightEntry_1 [iw n, iw low] H = some (.bool (decide (low ≤ n) && decide (n < 16)), H) := by
  rw [eval_M rfl rfl t_layout_RightEntry_1 rfl]
  by_cases h : low ≤ n
  · simp [c_layout_RightEntry_1, h]
  · simp [c_layout_RightEntry_1, h]

theorem En.eqz (x : En) : eqCells [.bool, .int .i64, .str, .int .i64] x.cells [.bool false, iw 0, .str [], iw 0] = some (decide (x = zeroEn)) := by
  obtain ⟨a, b, c, d⟩ := x
  cases a <;> simp [eqCells, En.cells, zeroEn]

theorem RightEntry_eq (x : En) (hx : x.name.length ≤ 1000) (H : Heap) : eval tbl noExt n_layout_RightEntry [.agg x.cells] H = some (.bool x.right, H) := by
  have hN := LName_eq x.name hx []
  have h1 := fun K => in_eq x.parent 0 K
  have h2 := fun K => in_eq x.target 1 K
  have hz := En.eqz x
  have hlt := lt_layout_RightEntry_1
  rw [eval_M rfl rfl t_layout_RightEntry rfl]
  unfold En.right
  obtain ⟨u, p, n, t⟩ := x
  simp only at hN h1 h2
  simp only [En.cells] at hz ⊢
  cases u with
  | false =>
    simp [c_layout_RightEntry, hz]
  | true =>
    by_cases a1 : 0 ≤ p
    · by_cases a2 : p < 16
      · by_cases a3 : 1 ≤ t
        · by_cases a4 : t < 16
          · simp [c_layout_RightEntry, h1, h2, hlt, a1, a2, a3, a4, hN]
          · simp [c_layout_RightEntry, h1, h2, hlt, a1, a2, a3, a4]
        · simp [c_layout_RightEntry, h1, h2, hlt, a1, a2, a3]
      · simp [c_layout_RightEntry, h1, h2, hlt, a1, a2]
    · simp [c_layout_RightEntry, h1, h2, hlt, a1]

theorem refRightEntry_eq (x : En) (hx : x.name.length ≤ 1000) (H : Heap) : eval tbl noExt n_flotsamref07_RightEntry [.agg x.cells] H = some (.bool x.right, H) := by
  have hN := refLName_eq x.name hx []
  have hz := En.eqz x
  rw [eval_M rfl rfl t_flotsamref07_RightEntry rfl]
  unfold En.right
  obtain ⟨u, p, n, t⟩ := x
  simp only at hN
  simp only [En.cells] at hz ⊢
  cases u with
  | false =>
    simp [c_flotsamref07_RightEntry, hz]
  | true =>
    by_cases a1 : 0 ≤ p
    · by_cases a2 : p < 16
      · by_cases a3 : 1 ≤ t
        · by_cases a4 : t < 16
          · simp [c_flotsamref07_RightEntry, a1, a2, a3, a4, hN]
          · simp [c_flotsamref07_RightEntry, a1, a2, a3, a4]
        · simp [c_flotsamref07_RightEntry, a1, a2, a3]
      · simp [c_flotsamref07_RightEntry, a1, a2]
    · simp [c_flotsamref07_RightEntry, a1]

/-- An inode. -/
structure Ino where
  kind : Int
  size : Int
  b0 : Int
  b1 : Int
  b2 : Int
  b3 : Int
def Ino.cells (x : Ino) : List V := [iw x.kind, iw x.size, iw x.b0, iw x.b1, iw x.b2, iw x.b3]

/-! Sectors. -/
def bys (s : List UInt8) : List V := s.map fun c => u8 c.toNat
/-- An entry's sector, of its name's first i bytes. -/
def secAt (a b c d : Int) (s : List UInt8) (i : Nat) : List V := [u8 a, u8 b, u8 c, u8 d] ++ (List.replicate 12 (u8 0) ++ (bys (s.take i) ++ List.replicate (16 - i) (u8 0)))
def zeroSec : List V := List.replicate 32 (u8 0)
def En.sec (x : En) : List V := if x.used = true then secAt 1 x.parent x.target x.name.length x.name x.name.length else zeroSec

theorem sec_lit (a b c d : Int) (s : List UInt8) : [u8 a, u8 b, u8 c, u8 d, u8 0, u8 0, u8 0, u8 0, u8 0, u8 0, u8 0, u8 0, u8 0, u8 0, u8 0, u8 0, u8 0, u8 0, u8 0, u8 0, u8 0, u8 0, u8 0, u8 0, u8 0, u8 0, u8 0, u8 0, u8 0, u8 0, u8 0, u8 0] = secAt a b c d s 0 := rfl
theorem secAt_len (a b c d : Int) (s : List UInt8) {i : Nat} (hi : i ≤ s.length) (h : i ≤ 16) : (secAt a b c d s i).length = 32 := by
  simp [secAt, bys]
  omega

theorem sec_set (a b c d : Int) (s : List UInt8) {i : Nat} (hi : i < s.length) (h : i < 16) : (secAt a b c d s i).set (16 + i) (u8 (s[i]).toNat) = secAt a b c d s (i + 1) := by
  unfold secAt
  rw [List.set_append_right _ _ (by simp; omega), List.set_append_right _ _ (by simp; omega), List.set_append_right _ _ (by simp [bys]; omega)]
  obtain ⟨m, hm⟩ : ∃ m, 16 - i = m + 1 := ⟨16 - i - 1, by omega⟩
  have e1 : 16 + i - [u8 a, u8 b, u8 c, u8 d].length - (List.replicate 12 (u8 0)).length - (bys (s.take i)).length = 0 := by
    simp [bys]; omega
  have e2 : 16 - (i + 1) = m := by omega
  have e4 : (List.replicate (m + 1) (u8 0)).set 0 (u8 (s[i]).toNat) = u8 (s[i]).toNat :: List.replicate m (u8 0) := rfl
  rw [e1, hm, e2, e4]
  have e3 : bys (s.take (i + 1)) = bys (s.take i) ++ [u8 (s[i]).toNat] := by
    unfold bys
    rw [List.take_add_one, List.getElem?_eq_getElem hi, List.map_append]
    rfl
  rw [e3]
  simp

theorem setMany_mid2 (a b vs cs : List V) (h : vs.length = b.length) : setMany (a ++ (b ++ cs)) a.length vs = a ++ (vs ++ cs) := by
  induction vs generalizing a b with
  | nil =>
    have : b = [] := List.eq_nil_of_length_eq_zero (by simpa using h.symm)
    subst this; rfl
  | cons v vs ih =>
    match b, h with
    | x :: b, h =>
      simp only [List.length_cons, Nat.add_right_cancel_iff] at h
      simp only [setMany]
      have e1 : (a ++ (x :: b ++ cs)).set a.length v = (a ++ [v]) ++ (b ++ cs) := by
        rw [List.set_append_right _ _ (Nat.le_refl _)]
        simp
      have := ih (a ++ [v]) b h
      rw [e1]
      simp only [List.length_append, List.length_singleton] at this
      rw [this]; simp

theorem sec_many (a b c d : Int) (s : List UInt8) (h : s.length ≤ 16) : setMany (secAt a b c d s 0) 16 (bys s) = secAt a b c d s s.length := by
  unfold secAt
  have h1 := setMany_mid2 ([u8 a, u8 b, u8 c, u8 d] ++ List.replicate 12 (u8 0)) (List.replicate s.length (u8 0)) (bys s) (List.replicate (16 - s.length) (u8 0)) (by simp [bys])
  have e : ([u8 a, u8 b, u8 c, u8 d] ++ List.replicate 12 (u8 0)).length = 16 := rfl
  rw [e, List.replicate_append_replicate, show s.length + (16 - s.length) = 16 - 0 by omega] at h1
  simp only [List.append_assoc] at h1
  have e2 : bys (s.take 0) = [] := rfl
  rw [e2, List.nil_append, h1, List.take_length]

/-! What is known of a sector's cells. -/
def secOf (l : List Int) : List V := l.map u8
structure SecOK (c : List V) : Prop where
  ints : ∃ l : List Int, c = secOf l ∧ l.length = 32

theorem SecOK.of (l : List Int) (h : l.length = 32) : SecOK (secOf l) := ⟨⟨l, rfl, h⟩⟩
theorem SecOK.len {c : List V} (h : SecOK c) : c.length = 32 := by obtain ⟨⟨l, rfl, hl⟩⟩ := h; simpa [secOf] using hl
theorem SecOK.take {c : List V} (h : SecOK c) : c.take 32 = c := List.take_of_length_le (by rw [h.len]; omega)
theorem SecOK.strip {c : List V} (h : SecOK c) : c.map V.strip = c := by
  obtain ⟨⟨l, rfl, hl⟩⟩ := h
  unfold secOf
  rw [List.map_map]; rfl
theorem SecOK.one {c : List V} (h : SecOK c) : c.all V.one = true := by
  obtain ⟨⟨l, rfl, hl⟩⟩ := h
  rw [List.all_eq_true]
  intro v hv
  obtain ⟨n, _, rfl⟩ := List.mem_map.1 hv
  rfl
theorem SecOK.plain {c : List V} (h : SecOK c) : c.all V.plain = true := by
  obtain ⟨⟨l, rfl, hl⟩⟩ := h
  rw [List.all_eq_true]
  intro v hv
  obtain ⟨n, _, rfl⟩ := List.mem_map.1 hv
  rfl
theorem under_ints (n : Nat) : ∀ l : List Int, V.underAll n (secOf l) = true
  | [] => rfl
  | a :: l => by
    have := under_ints n l
    unfold secOf at this ⊢
    rw [List.map_cons, V.underAll, this]; rfl
theorem SecOK.under {c : List V} (h : SecOK c) (n : Nat) : V.underAll n c = true := by
  obtain ⟨⟨l, rfl, hl⟩⟩ := h
  exact under_ints n l
theorem setMany_self2 (cs vs : List V) (h : vs.length = cs.length) : setMany cs 0 vs = vs := by
  have := setMany_mid2 [] cs vs [] h
  simpa using this
theorem h32 {c : List V} (h : SecOK c) : ∀ x0 x1 x2 x3 x4 x5 x6 x7 x8 x9 x10 x11 x12 x13 x14 x15 x16 x17 x18 x19 x20 x21 x22 x23 x24 x25 x26 x27 x28 x29 x30 x31 : V, setMany [x0, x1, x2, x3, x4, x5, x6, x7, x8, x9, x10, x11, x12, x13, x14, x15, x16, x17, x18, x19, x20, x21, x22, x23, x24, x25, x26, x27, x28, x29, x30, x31] 0 c = c := by
  intro x0 x1 x2 x3 x4 x5 x6 x7 x8 x9 x10 x11 x12 x13 x14 x15 x16 x17 x18 x19 x20 x21 x22 x23 x24 x25 x26 x27 x28 x29 x30 x31
  exact setMany_self2 _ _ (by rw [h.len]; rfl)

theorem sec_eqCells : ∀ (n : Nat) (xs ys : List Int), xs.length = n → ys.length = n → eqCells (List.replicate n (.int .u8)) (secOf xs) (secOf ys) = some (decide (xs = ys))
  | 0, [], [], _, _ => rfl
  | n + 1, x :: xs, y :: ys, hx, hy => by
    simp only [List.length_cons, Nat.add_right_cancel_iff] at hx hy
    have ih := sec_eqCells n xs ys hx hy
    unfold secOf at ih ⊢
    simp [List.replicate, eqCells, ih]
  | 0, _ :: _, _, h, _ => by simp at h
  | 0, [], _ :: _, _, h => by simp at h
  | n + 1, [], _, h, _ => by simp at h
  | n + 1, _ :: _, [], _, h => by simp at h
theorem SecOK.eqc {a b : List V} (ha : SecOK a) (hb : SecOK b) [Decidable (a = b)] : eqCells [.int .u8, .int .u8, .int .u8, .int .u8, .int .u8, .int .u8, .int .u8, .int .u8, .int .u8, .int .u8, .int .u8, .int .u8, .int .u8, .int .u8, .int .u8, .int .u8, .int .u8, .int .u8, .int .u8, .int .u8, .int .u8, .int .u8, .int .u8, .int .u8, .int .u8, .int .u8, .int .u8, .int .u8, .int .u8, .int .u8, .int .u8, .int .u8] a b = some (decide (a = b)) := by
  obtain ⟨⟨l, rfl, hl⟩⟩ := ha
  obtain ⟨⟨m, rfl, hm⟩⟩ := hb
  have h := sec_eqCells 32 l m hl hm
  have e : (decide (l = m)) = decide (secOf l = secOf m) := by
    rw [Bool.eq_iff_iff, decide_eq_true_eq, decide_eq_true_eq]
    constructor
    · intro h; rw [h]
    · intro h
      have hinj : ∀ (a b : List Int), secOf a = secOf b → a = b := by
        intro a
        induction a with
        | nil => intro b hb; cases b with
          | nil => rfl
          | cons => simp [secOf] at hb
        | cons x a ih => intro b hb; cases b with
          | nil => simp [secOf] at hb
          | cons y b =>
            simp only [secOf, List.map_cons, List.cons.injEq, V.int.injEq, true_and] at hb
            rw [hb.1, ih b hb.2]
      exact hinj l m h
  rw [← e]
  exact h

theorem secAt_ok (a b c d : Int) (s : List UInt8) {i : Nat} (hi : i ≤ s.length) (h : i ≤ 16) : SecOK (secAt a b c d s i) := by
  refine ⟨⟨[a, b, c, d] ++ (List.replicate 12 0 ++ ((s.take i).map (fun c => (c.toNat : Int)) ++ List.replicate (16 - i) 0)), ?_, ?_⟩⟩
  · unfold secAt secOf bys
    simp only [List.map_append, List.map_cons, List.map_nil, List.map_map, List.map_replicate]
    rfl
  · simp; omega
theorem zeroSec_ok : SecOK zeroSec := ⟨⟨List.replicate 32 0, rfl, rfl⟩⟩

end Go.AM.Spec
