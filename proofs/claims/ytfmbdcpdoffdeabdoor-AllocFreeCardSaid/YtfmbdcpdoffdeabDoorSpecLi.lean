/-
 The parts of this proof that speak of the functions one by one.
-/
import Derived.Test.YtfmbdcpdoffdeabDoorSpc
import Derived.Lib.SlTrimSet
import Derived.Test.YtfmbdcpdoffdeabDoorTyl
namespace Go.AM.Spec
set_option linter.unusedVariables false
set_option linter.unusedSimpArgs false
set_option maxHeartbeats 1000000
theorem IndexFunc_int_int_loop {α : Type} {f : Nat} {first cap : List V} (hp : f < yBase) (e : α → Int) (l : List α) (hl : l.length ≤ 1000000) (p : α → Bool) (H : Heap) (call : CallF)
  (hf : ∀ a ∈ l, call f (first ++ [V.int .i64 (e a)] ++ cap) H = some (.bool (p a), H)) (Q : Option (V × Heap) → Prop) (k : List Item)
  (hret : ∀ φ' (i : Nat), l.any p = true → Fr.get φ' 4 = .int .i64 i → Q (retK k φ' H)) (hexit : ∀ φ', l.any p = false → Q (M call k φ' H)) :
  ∀ (j i : Nat) (φ : Fr), i + j = l.length → l.any p = (l.drop i).any p → Fr.get φ 0 = .sl 1 (l.map fun a => [V.int .i64 (e a)]) → Fr.get φ 1 = .fn (.func f) first cap → Fr.get φ 7 = .int .i64 l.length → Fr.get φ 8 = .int .i64 i →
   Q (M call (.code l_slices_IndexFunc_int_int_0 :: .blk 0 :: k) φ H) := by
 intro j
 induction j with
 | zero =>
  intro i φ hj hs h0 h1 h7 h8
  have hi : ¬ ((i : Int) < l.length) := by omega
  rw [List.drop_of_length_le (by omega)] at hs
  rw [l_slices_IndexFunc_int_int_0, M_loop, ← l_slices_IndexFunc_int_int_0]
  simp [b_slices_IndexFunc_int_int_0, h0, h1, h7, h8, hi]
  exact hexit _ (by rw [hs]; rfl)
 | succ j ih =>
  intro i φ hj hs h0 h1 h7 h8
  have hi : (i : Int) < l.length := by omega
  have hil : i < l.length := by omega
  obtain ⟨a, ha, hmem, hd⟩ : ∃ a, l[i]? = some a ∧ a ∈ l ∧ l.drop i = a :: l.drop (i + 1) := ⟨l[i], List.getElem?_eq_getElem hil, List.getElem_mem hil, List.drop_eq_getElem_cons hil⟩
  have hr : (l.map fun a => [V.int .i64 (e a)])[i]? = some [V.int .i64 (e a)] := by rw [List.getElem?_map, ha]; rfl
  have hgl : (l.map fun a => [V.int .i64 (e a)]).length = l.length := List.length_map ..
  have hw1 : IntKind.i64.wrap ((i : Int) + 1) = ((i + 1 : Nat) : Int) := by rw [w64 (by omega) (by omega)]; rfl
  have hcall := hf a hmem
  rw [hd, List.any_cons] at hs
  rw [l_slices_IndexFunc_int_int_0, M_loop, ← l_slices_IndexFunc_int_int_0]
  cases hb : p a with
  | true =>
   rw [hb, Bool.true_or] at hs
   rw [hb] at hcall
   simp at hcall
   simp [b_slices_IndexFunc_int_int_0, h0, h1, h7, h8, hi, hgl, hr, hp, hcall]
   exact hret _ i hs (by simp)
  | false =>
   rw [hb, Bool.false_or] at hs
   rw [hb] at hcall
   simp at hcall
   simp [b_slices_IndexFunc_int_int_0, h0, h1, h7, h8, hi, hgl, hr, hp, hcall, hw1]
   exact ih (i + 1) _ (by omega) hs (by simp [h0]) (by simp [h1]) (by simp [h7]) (by simp)
theorem ContainsFunc_int_int {α : Type} {f : Nat} {first cap : List V} (hp : f < yBase) (e : α → Int) (l : List α) (hl : l.length ≤ 1000000) (p : α → Bool) (H : Heap)
  (hf : ∀ a ∈ l, eval tbl (fun _ => none) f (first ++ [V.int .i64 (e a)] ++ cap) H = some (.bool (p a), H)) :
  eval tbl (fun _ => none) n_slices_ContainsFunc_int_int [.sl 1 (l.map fun a => [V.int .i64 (e a)]), .fn (.func f) first cap] H = some (.bool (l.any p), H) := by
 obtain ⟨n, hn, hn2⟩ : ∃ n : Int, eval tbl (fun _ => none) n_slices_IndexFunc_int_int [.sl 1 (l.map fun a => [V.int .i64 (e a)]), .fn (.func f) first cap] H = some (.int .i64 n, H) ∧ decide (0 ≤ n) = l.any p := by
  rw [eval_M rfl rfl t_slices_IndexFunc_int_int rfl]
  simp [c_slices_IndexFunc_int_int]
  refine IndexFunc_int_int_loop hp e l hl p H _ hf (fun o => ∃ n : Int, o = some (.int .i64 n, H) ∧ decide (0 ≤ n) = l.any p) _ (fun φ' i h g => ?_) (fun φ' h => ?_) l.length 0 _ (by omega) (by simp) (by simp) (by simp) (by simp) (by simp)
  ·exact ⟨i, by simp [g], by rw [h]; simp⟩
  ·exact ⟨-1, by simp [r_slices_IndexFunc_int_int_0], by rw [h]; simp⟩
 rw [eval_M rfl rfl t_slices_ContainsFunc_int_int rfl]
 simp [c_slices_ContainsFunc_int_int, hn, hn2]
set_option maxRecDepth 10000
abbrev iw (n : Int) : V := .int .i64 n
def signs : List UInt8 := [97, 98, 99, 100, 101, 102, 103, 104, 105, 106, 107, 108, 109, 110, 111, 112, 113, 114, 115, 116, 117, 118, 119, 120, 121, 122, 48, 49, 50, 51, 52, 53, 54, 55, 56, 57, 46, 95]
def signN (n : Nat) : Bool := (decide (97 ≤ n) && decide (n ≤ 122)) || ((decide (48 ≤ n) && decide (n ≤ 57)) || (decide (n = 46) || decide (n = 95)))
theorem signs_all : ((List.range 256).all fun n => signs.contains (UInt8.ofNat n) == signN n) = true := by decide +kernel
theorem signs_iff (c : UInt8) : signs.contains c = signN c.toNat := by
 have h := List.all_eq_true.1 signs_all c.toNat (List.mem_range.2 (UInt8.toNat_lt c))
 rw [beq_iff_eq, UInt8.ofNat_toNat] at h
 exact h
theorem dropWhile_nil {α : Type} (p : α → Bool) : ∀ l : List α, l.dropWhile p = [] ↔ l.all p = true
 | [] => by simp
 | a :: l => by
  by_cases h : p a = true
  ·rw [List.dropWhile_cons_of_pos h, dropWhile_nil p l, List.all_cons, h, Bool.true_and]
  ·simp only [Bool.not_eq_true] at h
   rw [List.dropWhile_cons_of_neg (by simp [h]), List.all_cons, h]
   simp
theorem trim_nil (s cs : List UInt8) : (Go.Lib.trimS s cs = []) ↔ s.all (cs.contains ·) = true := by
 unfold Go.Lib.trimS Go.Lib.trimLeftS Go.Lib.trimRightS
 rw [dropWhile_nil]
 constructor
 ·intro h
  rw [List.all_eq_true] at h ⊢
  intro c hc
  by_cases hw : c ∈ s.reverse.dropWhile (cs.contains ·)
  ·exact h c (by simpa using hw)
  ·have hr : c ∈ s.reverse := by simpa using hc
   rw [← List.takeWhile_append_dropWhile (p := fun x => cs.contains x) (l := s.reverse), List.mem_append] at hr
   rcases hr with hr | hr
   ·exact (List.all_eq_true.1 (List.all_takeWhile (p := fun x => cs.contains x) (l := s.reverse)) c hr)
   ·exact absurd hr hw
 ·intro h
  rw [List.all_eq_true] at h ⊢
  intro c hc
  refine h c ?_
  have : c ∈ s.reverse.dropWhile (cs.contains ·) := by simpa using hc
  have := (List.dropWhile_sublist (l := s.reverse) (fun x => cs.contains x)).subset this
  simpa using this
def nameOK (s : List UInt8) : Bool := decide (s ≠ []) && (decide (s.length ≤ 8) && (decide (s ≠ [46]) && (decide (s ≠ [46, 46]) && s.all fun c => signN c.toNat)))
theorem trim_eq (s : List UInt8) (hs : s.length ≤ 1000) (H : Heap) : eval tbl noExt n_strings_Trim [.str s, .str signs] H = some (.str (Go.Lib.trimS s signs), H) := by
 have h1 : s.length ≤ 1000000 := by omega
 have h2 : signs.length ≤ 1000000 := by decide
 have h3 : (signs.all fun b => decide (b.toNat < 128)) = true := by decide
 rw [eval_X (e := xTrim) rfl rfl]
 show (if s.length ≤ 1000000 ∧ signs.length ≤ 1000000 ∧ (signs.all fun b => decide (b.toNat < 128)) then some (V.str (Go.Lib.trimS s signs), H) else none) = _
 rw [if_pos ⟨h1, h2, h3⟩]
theorem LName_eq (s : List UInt8) (hs : s.length ≤ 1000) (H : Heap) : eval tbl noExt n_layout_Name [.str s] H = some (.bool (nameOK s), H) := by
 have ht := trim_eq s hs []
 unfold signs at ht
 rw [eval_M rfl rfl t_layout_Name rfl]
 unfold nameOK
 by_cases a1 : s = []
 ·subst a1
  simp [c_layout_Name]
 ·by_cases a2 : s.length ≤ 8
  ·have a2' : (s.length : Int) ≤ 8 := by omega
   by_cases a3 : s = [46]
   ·subst a3
    simp [c_layout_Name]
   ·by_cases a4 : s = [46, 46]
    ·subst a4
     simp [c_layout_Name]
    ·have hall : (s.all fun c => signN c.toNat) = decide (Go.Lib.trimS s signs = []) := by
      rw [Bool.eq_iff_iff, decide_eq_true_eq, trim_nil]
      have : (s.all fun c => signN c.toNat) = s.all (signs.contains ·) := by
       congr 1
       funext c
       exact (signs_iff c).symm
      rw [this]
     rw [hall]
     unfold signs
     simp [c_layout_Name, a1, a2, a2', a3, a4, ht]
  ·have a2' : ¬ (s.length : Int) ≤ 8 := by omega
   simp [c_layout_Name, a1, a2, a2']
set_option maxHeartbeats 2000000
abbrev u8 (n : Int) : V := .int .u8 n
structure En where
 used : Bool
 parent : Int
 name : List UInt8
 target : Int
 deriving DecidableEq
def En.cells (x : En) : List V := [.bool x.used, iw x.parent, .str x.name, iw x.target]
def zeroEn : En := ⟨false, 0, [], 0⟩
def En.right (x : En) : Bool := if x.used = true then (decide (0 ≤ x.parent) && decide (x.parent < 16)) && ((decide (1 ≤ x.target) && decide (x.target < 16)) && nameOK x.name) else decide (x = zeroEn)
theorem in_eq (n low : Int) (H : Heap) : eval tbl noExt n_layout_RightEntry_1 [iw n, iw low] H = some (.bool (decide (low ≤ n) && decide (n < 16)), H) := by
 rw [eval_M rfl rfl t_layout_RightEntry_1 rfl]
 by_cases h : low ≤ n
 ·simp [c_layout_RightEntry_1, h]
 ·simp [c_layout_RightEntry_1, h]
theorem En.eqz (x : En) : eqCells [.bool, .int .i64, .str, .int .i64] x.cells [.bool false, iw 0, .str [], iw 0] = some (decide (x = zeroEn)) := by
 obtain ⟨a, b, c, d⟩ := x
 cases a <;> simp [eqCells, En.cells, zeroEn]
theorem RightEntry_eq (x : En) (hx : x.name.length ≤ 1000) (H : Heap) : eval tbl noExt n_layout_RightEntry [.agg x.cells] H = some (.bool x.right, H) := by
 have hN := LName_eq x.name hx []
 have h1 := fun K => in_eq x.parent 0 K
 have h2 := fun K => in_eq x.target 1 K
 have hz := En.eqz x
 have hlt := lt_layout_RightEntry_1
 rw [eval_M rfl rfl t_layout_RightEntry rfl]
 unfold En.right
 obtain ⟨u, p, n, t⟩ := x
 simp only at hN h1 h2
 simp only [En.cells] at hz ⊢
 cases u with
 | false =>
  simp [c_layout_RightEntry, hz]
 | true =>
  by_cases a1 : 0 ≤ p
  ·by_cases a2 : p < 16
   ·by_cases a3 : 1 ≤ t
    ·by_cases a4 : t < 16
     ·simp [c_layout_RightEntry, h1, h2, hlt, a1, a2, a3, a4, hN]
     ·simp [c_layout_RightEntry, h1, h2, hlt, a1, a2, a3, a4]
    ·simp [c_layout_RightEntry, h1, h2, hlt, a1, a2, a3]
   ·simp [c_layout_RightEntry, h1, h2, hlt, a1, a2]
  ·simp [c_layout_RightEntry, h1, h2, hlt, a1]
structure Ino where
 kind : Int
 size : Int
 b0 : Int
 b1 : Int
 b2 : Int
 b3 : Int
def Ino.cells (x : Ino) : List V := [iw x.kind, iw x.size, iw x.b0, iw x.b1, iw x.b2, iw x.b3]
def bys (s : List UInt8) : List V := s.map fun c => u8 c.toNat
def secAt (a b c d : Int) (s : List UInt8) (i : Nat) : List V := [u8 a, u8 b, u8 c, u8 d] ++ (List.replicate 12 (u8 0) ++ (bys (s.take i) ++ List.replicate (16 - i) (u8 0)))
def zeroSec : List V := List.replicate 32 (u8 0)
def En.sec (x : En) : List V := if x.used = true then secAt 1 x.parent x.target x.name.length x.name x.name.length else zeroSec
theorem setMany_mid2 (a b vs cs : List V) (h : vs.length = b.length) : setMany (a ++ (b ++ cs)) a.length vs = a ++ (vs ++ cs) := by
 induction vs generalizing a b with
 | nil =>
  have : b = [] := List.eq_nil_of_length_eq_zero (by simpa using h.symm)
  subst this; rfl
 | cons v vs ih =>
  match b, h with
  | x :: b, h =>
   simp only [List.length_cons, Nat.add_right_cancel_iff] at h
   simp only [setMany]
   have e1 : (a ++ (x :: b ++ cs)).set a.length v = (a ++ [v]) ++ (b ++ cs) := by
    rw [List.set_append_right _ _ (Nat.le_refl _)]
    simp
   have := ih (a ++ [v]) b h
   rw [e1]
   simp only [List.length_append, List.length_singleton] at this
   rw [this]; simp
theorem sec_many (a b c d : Int) (s : List UInt8) (h : s.length ≤ 16) : setMany (secAt a b c d s 0) 16 (bys s) = secAt a b c d s s.length := by
 unfold secAt
 have h1 := setMany_mid2 ([u8 a, u8 b, u8 c, u8 d] ++ List.replicate 12 (u8 0)) (List.replicate s.length (u8 0)) (bys s) (List.replicate (16 - s.length) (u8 0)) (by simp [bys])
 have e : ([u8 a, u8 b, u8 c, u8 d] ++ List.replicate 12 (u8 0)).length = 16 := rfl
 rw [e, List.replicate_append_replicate, show s.length + (16 - s.length) = 16 - 0 by omega] at h1
 simp only [List.append_assoc] at h1
 have e2 : bys (s.take 0) = [] := rfl
 rw [e2, List.nil_append, h1, List.take_length]
def secOf (l : List Int) : List V := l.map u8
structure SecOK (c : List V) : Prop where
 ints : ∃ l : List Int, c = secOf l ∧ l.length = 32
theorem SecOK.of (l : List Int) (h : l.length = 32) : SecOK (secOf l) := ⟨⟨l, rfl, h⟩⟩
theorem SecOK.len {c : List V} (h : SecOK c) : c.length = 32 := by obtain ⟨⟨l, rfl, hl⟩⟩ := h; simpa [secOf] using hl
theorem SecOK.take {c : List V} (h : SecOK c) : c.take 32 = c := List.take_of_length_le (by rw [h.len]; omega)
theorem SecOK.strip {c : List V} (h : SecOK c) : c.map V.strip = c := by
 obtain ⟨⟨l, rfl, hl⟩⟩ := h
 unfold secOf
 rw [List.map_map]; rfl
theorem SecOK.one {c : List V} (h : SecOK c) : c.all V.one = true := by
 obtain ⟨⟨l, rfl, hl⟩⟩ := h
 rw [List.all_eq_true]
 intro v hv
 obtain ⟨n, _, rfl⟩ := List.mem_map.1 hv
 rfl
theorem SecOK.plain {c : List V} (h : SecOK c) : c.all V.plain = true := by
 obtain ⟨⟨l, rfl, hl⟩⟩ := h
 rw [List.all_eq_true]
 intro v hv
 obtain ⟨n, _, rfl⟩ := List.mem_map.1 hv
 rfl
theorem under_ints (n : Nat) : ∀ l : List Int, V.underAll n (secOf l) = true
 | [] => rfl
 | a :: l => by
  have := under_ints n l
  unfold secOf at this ⊢
  rw [List.map_cons, V.underAll, this]; rfl
theorem SecOK.under {c : List V} (h : SecOK c) (n : Nat) : V.underAll n c = true := by
 obtain ⟨⟨l, rfl, hl⟩⟩ := h
 exact under_ints n l
theorem setMany_self2 (cs vs : List V) (h : vs.length = cs.length) : setMany cs 0 vs = vs := by
 have := setMany_mid2 [] cs vs [] h
 simpa using this
theorem h32 {c : List V} (h : SecOK c) : ∀ x0 x1 x2 x3 x4 x5 x6 x7 x8 x9 x10 x11 x12 x13 x14 x15 x16 x17 x18 x19 x20 x21 x22 x23 x24 x25 x26 x27 x28 x29 x30 x31 : V, setMany [x0, x1, x2, x3, x4, x5, x6, x7, x8, x9, x10, x11, x12, x13, x14, x15, x16, x17, x18, x19, x20, x21, x22, x23, x24, x25, x26, x27, x28, x29, x30, x31] 0 c = c := by
 intro x0 x1 x2 x3 x4 x5 x6 x7 x8 x9 x10 x11 x12 x13 x14 x15 x16 x17 x18 x19 x20 x21 x22 x23 x24 x25 x26 x27 x28 x29 x30 x31
 exact setMany_self2 _ _ (by rw [h.len]; rfl)
theorem sec_eqCells : ∀ (n : Nat) (xs ys : List Int), xs.length = n → ys.length = n → eqCells (List.replicate n (.int .u8)) (secOf xs) (secOf ys) = some (decide (xs = ys))
 | 0, [], [], _, _ => rfl
 | n + 1, x :: xs, y :: ys, hx, hy => by
  simp only [List.length_cons, Nat.add_right_cancel_iff] at hx hy
  have ih := sec_eqCells n xs ys hx hy
  unfold secOf at ih ⊢
  simp [List.replicate, eqCells, ih]
 | 0, _ :: _, _, h, _ => by simp at h
 | 0, [], _ :: _, _, h => by simp at h
 | n + 1, [], _, h, _ => by simp at h
 | n + 1, _ :: _, [], _, h => by simp at h
theorem SecOK.eqc {a b : List V} (ha : SecOK a) (hb : SecOK b) [Decidable (a = b)] : eqCells [.int .u8, .int .u8, .int .u8, .int .u8, .int .u8, .int .u8, .int .u8, .int .u8, .int .u8, .int .u8, .int .u8, .int .u8, .int .u8, .int .u8, .int .u8, .int .u8, .int .u8, .int .u8, .int .u8, .int .u8, .int .u8, .int .u8, .int .u8, .int .u8, .int .u8, .int .u8, .int .u8, .int .u8, .int .u8, .int .u8, .int .u8, .int .u8] a b = some (decide (a = b)) := by
 obtain ⟨⟨l, rfl, hl⟩⟩ := ha
 obtain ⟨⟨m, rfl, hm⟩⟩ := hb
 have h := sec_eqCells 32 l m hl hm
 have e : (decide (l = m)) = decide (secOf l = secOf m) := by
  rw [Bool.eq_iff_iff, decide_eq_true_eq, decide_eq_true_eq]
  constructor
  ·intro h; rw [h]
  ·intro h
   have hinj : ∀ (a b : List Int), secOf a = secOf b → a = b := by
    intro a
    induction a with
    | nil => intro b hb; cases b with
     | nil => rfl
     | cons => simp [secOf] at hb
    | cons x a ih => intro b hb; cases b with
     | nil => simp [secOf] at hb
     | cons y b =>
      simp only [secOf, List.map_cons, List.cons.injEq, V.int.injEq, true_and] at hb
      rw [hb.1, ih b hb.2]
   exact hinj l m h
 rw [← e]
 exact h
theorem secAt_ok (a b c d : Int) (s : List UInt8) {i : Nat} (hi : i ≤ s.length) (h : i ≤ 16) : SecOK (secAt a b c d s i) := by
 refine ⟨⟨[a, b, c, d] ++ (List.replicate 12 0 ++ ((s.take i).map (fun c => (c.toNat : Int)) ++ List.replicate (16 - i) 0)), ?_, ?_⟩⟩
 ·unfold secAt secOf bys
  simp only [List.map_append, List.map_cons, List.map_nil, List.map_map, List.map_replicate]
  rfl
 ·simp; omega
theorem zeroSec_ok : SecOK zeroSec := ⟨⟨List.replicate 32 0, rfl, rfl⟩⟩
set_option maxHeartbeats 1000000
theorem RightInode_1_0 (b : Int) (H : Heap) : eval tbl (fun _ => none) n_layout_RightInode_1 [iw b] H = some (.bool (odd24 b), H) := by
 rw [eval_M rfl rfl t_layout_RightInode_1 rfl]
 unfold odd24
 by_cases h : b < 1
 ·simp [c_layout_RightInode_1, h]
 ·simp [c_layout_RightInode_1, h]
theorem RightInode_2_0 (b : Int) (H : Heap) : eval tbl (fun _ => none) n_layout_RightInode_2 [iw b] H = some (.bool (decide (b ≠ 0)), H) := by
 rw [eval_M rfl rfl t_layout_RightInode_2 rfl]
 simp [c_layout_RightInode_2]
theorem contains1_0 (l : List Int) (hl : l.length ≤ 1000000) (H : Heap) : eval tbl (fun _ => none) n_slices_ContainsFunc_int_int [.sl 1 (l.map fun a => [iw a]), .fn (.func n_layout_RightInode_1) [] []] H = some (.bool (l.any odd24), H) :=
 ContainsFunc_int_int lt_layout_RightInode_1 (fun a => a) l hl odd24 H (fun a _ => RightInode_1_0 a H)
theorem contains2_0 (l : List Int) (hl : l.length ≤ 1000000) (H : Heap) : eval tbl (fun _ => none) n_slices_ContainsFunc_int_int [.sl 1 (l.map fun a => [iw a]), .fn (.func n_layout_RightInode_2) [] []] H = some (.bool (l.any fun b => decide (b ≠ 0)), H) :=
 ContainsFunc_int_int lt_layout_RightInode_2 (fun a => a) l hl (fun b => decide (b ≠ 0)) H (fun a _ => RightInode_2_0 a H)
theorem rin_free0 (k s a b c d : Int) (h : k = 0 ∨ k = 2) : eval tbl (fun _ => none) n_layout_RightInode [.agg [iw k, iw s, iw a, iw b, iw c, iw d]] [] = some (.bool (decide (s = 0 ∧ a = 0 ∧ b = 0 ∧ c = 0 ∧ d = 0)), []) := by
 rw [eval_M rfl rfl t_layout_RightInode rfl]
 rcases h with h | h
 ·subst h
  simp [c_layout_RightInode, eqCells, Bool.and_assoc]
 ·subst h
  simp [c_layout_RightInode, eqCells, Bool.and_assoc]
theorem rin_odd0 (k s a b c d : Int) (h0 : k ≠ 0) (h2 : k ≠ 2) (h1 : k ≠ 1) : eval tbl (fun _ => none) n_layout_RightInode [.agg [iw k, iw s, iw a, iw b, iw c, iw d]] [] = some (.bool false, []) := by
 rw [eval_M rfl rfl t_layout_RightInode rfl]
 simp [c_layout_RightInode, h0, h1, h2]
theorem rin_size0 (s a b c d : Int) (h : s < 0 ∨ 128 < s) : eval tbl (fun _ => none) n_layout_RightInode [.agg [iw 1, iw s, iw a, iw b, iw c, iw d]] [] = some (.bool false, []) := by
 rw [eval_M rfl rfl t_layout_RightInode rfl]
 by_cases h1 : s < 0
 ·simp [c_layout_RightInode, h1]
 ·have h2 : (128 : Int) < s := by omega
  simp [c_layout_RightInode, h1, h2]
end Go.AM.Spec
