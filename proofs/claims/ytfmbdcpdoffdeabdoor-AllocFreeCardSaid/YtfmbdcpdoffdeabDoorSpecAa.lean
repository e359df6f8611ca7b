/-
 The parts of this proof that speak of the functions one by one.
-/
import Derived.Test.YtfmbdcpdoffdeabDoorSpecLa
import Derived.Test.YtfmbdcpdoffdeabDoorDoor
namespace Go.AM.Spec
set_option linter.unusedVariables false
set_option linter.unusedSimpArgs false
set_option maxHeartbeats 4000000
set_option maxRecDepth 20000
theorem gk (K L : Heap) (j : Nat) : (K ++ L)[K.length + j]? = L[j]? := by
 rw [List.getElem?_append_right (by omega), Nat.add_sub_cancel_left]
theorem gk0 (K L : Heap) : (K ++ L)[K.length]? = L[0]? := gk K L 0
theorem sk (K L : Heap) (j : Nat) (x : Option (List V)) : (K ++ L).set (K.length + j) x = K ++ L.set j x := by
 rw [List.set_append_right _ _ (by omega), Nat.add_sub_cancel_left]
theorem sk0 (K L : Heap) (x : Option (List V)) : (K ++ L).set K.length x = K ++ L.set 0 x := sk K L 0 x
theorem tk0 (K L : Heap) : (K ++ L).take K.length = K := by simp
theorem tkj (K L : Heap) (j : Nat) : (K ++ L).take (K.length + j) = K ++ L.take j := by
 rw [List.take_append, List.take_of_length_le (by omega), Nat.add_sub_cancel_left]
structure Wr where
 pos : Int
 s : List UInt8
 k : Int
 id : Int
 ep : Int
def Wr.cells (x : Wr) : List V := iw x.pos :: (bys x.s ++ [iw x.k, iw x.id, iw x.ep])
theorem Wr.len {x : Wr} (h : x.s.length = 32) : x.cells.length = 36 := by simp [Wr.cells, bys, h]
theorem Wr.strip (x : Wr) : x.cells.map V.strip = x.cells := by simp [Wr.cells, bys_strip]
theorem bys_one (l : List UInt8) : (bys l).all V.one = true := by
 rw [List.all_eq_true]; intro v hv; obtain ⟨c, _, rfl⟩ := List.mem_map.1 hv; rfl
theorem bys_plain (l : List UInt8) : (bys l).all V.plain = true := by
 rw [List.all_eq_true]; intro v hv; obtain ⟨c, _, rfl⟩ := List.mem_map.1 hv; rfl
theorem bys_under (n : Nat) : ∀ l : List UInt8, V.underAll n (bys l) = true
 | [] => rfl
 | c :: l => by
  show (V.under n (u8 c.toNat) && V.underAll n (bys l)) = true
  rw [bys_under n l]; rfl
theorem underAll_app (n : Nat) : ∀ a b : List V, V.underAll n (a ++ b) = (V.underAll n a && V.underAll n b)
 | [], b => by simp [V.underAll]
 | x :: a, b => by simp only [List.cons_append, V.underAll, underAll_app n a b, Bool.and_assoc]
theorem Wr.one (x : Wr) : x.cells.all V.one = true := by simp [Wr.cells, bys_one, V.one]
theorem Wr.plain (x : Wr) : x.cells.all V.plain = true := by simp [Wr.cells, bys_plain, V.plain]
theorem Wr.under (x : Wr) (n : Nat) : V.underAll n x.cells = true := by simp [Wr.cells, V.underAll, underAll_app, bys_under, V.under]
theorem Wr.take {x : Wr} (h : x.s.length = 32) : x.cells.take 36 = x.cells := List.take_of_length_le (by rw [Wr.len h]; omega)
theorem Wr.get0 (x : Wr) : x.cells[0]? = some (iw x.pos) := rfl
theorem Wr.mid {x : Wr} (h : x.s.length = 32) : (x.cells.drop 1).take 32 = bys x.s := by
 have : (bys x.s).length = 32 := by simp [bys, h]
 simp only [Wr.cells, List.drop_succ_cons, List.drop_zero]
 rw [← this, List.take_left]
def wv (k : Nat) : List (List V) → V
 | [] => .nils k
 | x :: l => .own k (x :: l)
@[simp] theorem wv_strip (k : Nat) (l : List (List V)) : (wv k l).strip = .sl k l := by cases l <;> rfl
structure Dsk where
 next : Int
 safe : List (List UInt8)
 wait : List Wr
 log : List (List V)
def Dsk.cells (d : Dsk) : List V := [.nilm, iw d.next, .sl 32 (d.safe.map bys), wv 36 (d.wait.map Wr.cells), wv 38 d.log, iw 0]
structure Dsk.ok (d : Dsk) : Prop where
 low : 1 ≤ d.safe.length
 high : d.safe.length ≤ 65
 sec : ∀ s ∈ d.safe, s.length = 32
 wok : ∀ x ∈ d.wait, x.s.length = 32
 wl : d.wait.length ≤ 1000
theorem none_eq (K : Heap) (d : Dsk) (hK : K[1]? = some (some d.cells)) (ok : d.ok) : eval tbl noExt n_pbdisk_Disk_none [.ptr 1 0] K = some (.bool false, K) := by
 have h1 := ok.low
 have h2 : ¬ (d.safe.length : Int) = 0 := by omega
 have h3 : ¬ d.safe.length = 0 := by omega
 have hc : d.cells = [.nilm, iw d.next, .sl 32 (d.safe.map bys), wv 36 (d.wait.map Wr.cells), wv 38 d.log, iw 0] := rfl
 have h4 : ¬ d.safe = [] := fun h => h3 (by rw [h]; rfl)
 rw [eval_M rfl rfl t_pbdisk_Disk_none rfl]
 simp [c_pbdisk_Disk_none, hK, hc, h2, h3, h4]
theorem none_nil (K : Heap) : eval tbl noExt n_pbdisk_Disk_none [.nilp] K = some (.bool true, K) := by
 rw [eval_M rfl rfl t_pbdisk_Disk_none rfl]
 simp [c_pbdisk_Disk_none]
theorem has_eq (K : Heap) (d : Dsk) (hK : K[1]? = some (some d.cells)) (ok : d.ok) (n : Int) : eval tbl noExt n_pbdisk_Disk_has [.ptr 1 0, iw n] K = some (.bool (decide (0 ≤ n) && decide (n < d.safe.length)), K) := by
 have hN := none_eq K d hK ok
 have hc : d.cells = [.nilm, iw d.next, .sl 32 (d.safe.map bys), wv 36 (d.wait.map Wr.cells), wv 38 d.log, iw 0] := rfl
 rw [eval_M rfl rfl t_pbdisk_Disk_has rfl]
 by_cases h0 : 0 ≤ n
 ·simp [c_pbdisk_Disk_has, hN, hK, hc, h0]
 ·have h0' : ¬ n ≥ 0 := h0
  simp [c_pbdisk_Disk_has, hN, hK, hc, h0]
theorem has_nil (K : Heap) (n : Int) : eval tbl noExt n_pbdisk_Disk_has [.nilp, iw n] K = some (.bool false, K) := by
 have hN := none_nil K
 rw [eval_M rfl rfl t_pbdisk_Disk_has rfl]
 simp [c_pbdisk_Disk_has, hN]
end Go.AM.Spec
namespace Go.AM
set_option linter.unusedVariables false
set_option linter.unusedSimpArgs false
namespace Spec
open Go.ChangeShapes Go.WideShapes Go.Deep
section
variable {P : Program}
theorem write_of {tI tV tG tB : TypeId} {t : TypeId} {fs gs : Array Field} {vs : List V} (h : Ty P t vs) (hu : P.underlying t = some (.struct fs)) (hf : fs.toList.map (·.type) = [tI, tV, tG, tI]) (hI : P.underlying tI = some (.int .i64))
  (hV : P.underlying tV = some (.array 32 tB)) (hB : P.underlying tB = some (.int .u8)) (hG : P.underlying tG = some (.struct gs)) (hg : gs.toList.map (·.type) = [tI, tI]) : ∃ x : Wr, vs = x.cells ∧ x.s.length = 32 := by
 obtain ⟨parts, rfl, hl⟩ := Ty_struct_of h hu
 rw [hf] at hl
 match parts, hl with
 | [p, q, r, s], ⟨h0, h1, h2, h3, _⟩ =>
  obtain ⟨a, rfl, _⟩ := Ty_int_of h0 hI
  obtain ⟨l, rfl, hl⟩ := sec_of h1 hV hB
  obtain ⟨ps, rfl, hps⟩ := Ty_struct_of h2 hG
  rw [hg] at hps
  obtain ⟨e, rfl, _⟩ := Ty_int_of h3 hI
  match ps, hps with
  | [p0, p1], ⟨g0, g1, _⟩ =>
   obtain ⟨k, rfl, _⟩ := Ty_int_of g0 hI
   obtain ⟨i, rfl, _⟩ := Ty_int_of g1 hI
   exact ⟨⟨a, l, k, i, e⟩, by simp [Wr.cells], hl⟩
theorem writes_of {H : Type} {enc : TypeId × Value → H} {w : World} {ts : List TypeId} (hts : ∀ t ∈ ts, plainAt P ts t = true) {t e tI tV tG tB : TypeId} {fs gs : Array Field} (ht : t ∈ ts) (hu : P.underlying t = some (.slice e)) (he : P.underlying e = some (.struct fs)) (hf : fs.toList.map (·.type) = [tI, tV, tG, tI])
  (hI : P.underlying tI = some (.int .i64)) (hV : P.underlying tV = some (.array 32 tB)) (hB : P.underlying tB = some (.int .u8)) (hG : P.underlying tG = some (.struct gs)) (hg : gs.toList.map (·.type) = [tI, tI]) (hc : P.cellsOf e = 36)
  {r : Reach} {b0 : Nat} {v : Value} {d : DataW H} {p : List MemPlace} (hv : Value.okWide P w r b0 t v) (h : DataW.Trod enc P w 0 (fun _ => true) true t v d p) :
  ∃ l : List Wr, (∀ x ∈ l, x.s.length = 32) ∧ R w (fun _ _ => False) [] (.sl 36 (l.map Wr.cells)) v := by
 obtain ⟨a, len, cap, rfl⟩ := okWide_slice hu hv
 obtain ⟨vs, hty, hpr⟩ := open_list hts ht hu (v := .slice a len cap) rfl h
 obtain ⟨rows, hr, _, hel⟩ := Ty_sl_of hty hu
 cases hr
 rw [hc] at hpr
 have key : ∀ {rows : List (List V)}, (∀ r ∈ rows, Ty P e r) → ∃ l : List Wr, rows = l.map Wr.cells ∧ ∀ x ∈ l, x.s.length = 32 := by
  intro rows
  induction rows with
  | nil => intro _; exact ⟨[], rfl, by simp⟩
  | cons r rows ih =>
   intro h
   obtain ⟨l, rfl, h2⟩ := ih (fun q hq => h q (by simp [hq]))
   obtain ⟨x, rfl, hx⟩ := write_of (h r (by simp)) he hf hI hV hB hG hg
   refine ⟨x :: l, rfl, fun q hq => ?_⟩
   rcases List.mem_cons.1 hq with rfl | hq
   ·exact hx
   ·exact h2 q hq
 obtain ⟨l, rfl, h2⟩ := key hel
 exact ⟨l, h2, .pr hpr⟩
end
end Spec
end Go.AM
namespace Go.AM.Spec
set_option linter.unusedVariables false
set_option linter.unusedSimpArgs false
set_option maxHeartbeats 4000000
set_option maxRecDepth 20000
abbrev RH (K : Heap) (n : Int) (z : List V) (e : Int) (W : List (List V)) (st pend : Nat) : Heap :=
 K ++ [some [iw n], some z, some [iw e], some [.sl 36 W], some [.lrec st pend q_pbdisk_Disk_Read_0 [18, 19] [3, 4, 5] [.ptr K.length 0, .ptr (K.length + 1) 0, .ptr (K.length + 2) 0]]]
theorem ryield_ne (K : Heap) (n : Int) (z : List V) (W : List (List V)) (x : Wr) (hx : x.s.length = 32) (h : x.pos ≠ n) (i : Int) :
  eval tbl noExt (yNo (K.length + 4)) [iw i, .agg x.cells] (RH K n z 0 W 0 0) = some (.bool true, RH K n z 0 W 0 0) := by
 have hrec : recAt (RH K n z 0 W 0 0) (K.length + 4) = some (0, 0, q_pbdisk_Disk_Read_0, [18, 19], [3, 4, 5], [.ptr K.length 0, .ptr (K.length + 1) 0, .ptr (K.length + 2) 0]) := by simp [recAt, RH, gk]
 have q1 := Wr.len hx
 have q2 := x.one
 have q3 := x.under
 have q4 := Wr.take hx
 have q5 := x.strip
 rw [eval_Y hrec u_pbdisk_Disk_Read_0 rfl]
 have q6 : ∀ a : List V, a.length = 36 → setMany a 0 x.cells = x.cells := fun a ha => setMany_self2 a x.cells (by rw [q1, ha])
 have q7 : ∀ h, x.cells[0]'h = iw x.pos := fun _ => rfl
 simp [a_pbdisk_Disk_Read_0, y_pbdisk_Disk_Read_0, recAt, RH, gk, gk0, sk, sk0, tkj, q1, q2, q3, q6, h, endRound, pendOf, Wr.get0, q7]
theorem ryield_eq (K : Heap) (n : Int) (z : List V) (hz : z.length = 32) (W : List (List V)) (x : Wr) (hx : x.s.length = 32) (h : x.pos = n) (i : Int) :
  eval tbl noExt (yNo (K.length + 4)) [iw i, .agg x.cells] (RH K n z 0 W 0 0) = some (.bool false, RH K n (bys x.s) 0 W 2 1) := by
 have hrec : recAt (RH K n z 0 W 0 0) (K.length + 4) = some (0, 0, q_pbdisk_Disk_Read_0, [18, 19], [3, 4, 5], [.ptr K.length 0, .ptr (K.length + 1) 0, .ptr (K.length + 2) 0]) := by simp [recAt, RH, gk]
 have q1 := Wr.len hx
 have q2 := x.one
 have q3 := x.under
 rw [eval_Y hrec u_pbdisk_Disk_Read_0 rfl]
 have q6 : ∀ a : List V, a.length = 36 → setMany a 0 x.cells = x.cells := fun a ha => setMany_self2 a x.cells (by rw [q1, ha])
 have q7 : ∀ h, x.cells[0]'h = iw x.pos := fun _ => rfl
 have q8 : List.take 32 (List.map V.strip x.cells).tail = bys x.s := by rw [Wr.strip, ← Wr.mid hx]; rfl
 have q14 : ∀ v ∈ bys x.s, v.one = true := fun v hv => by obtain ⟨c, _, rfl⟩ := List.mem_map.1 hv; rfl
 have q9 : setMany z 0 (bys x.s) = bys x.s := setMany_self2 z (bys x.s) (by simp [bys, hx, hz])
 have q10 : (bys x.s).length = 32 := by simp [bys, hx]
 have q11 := bys_strip x.s
 have q12 := bys_one x.s
 have q13 := fun n => bys_under n x.s
 simp [-List.all_eq_true, a_pbdisk_Disk_Read_0, y_pbdisk_Disk_Read_0, recAt, RH, gk, gk0, sk, sk0, tkj, q1, q2, q3, q6, h, endRound, pendOf, Wr.get0, q7, q8, q9, q10, q11, q12, q13, hz]
def lastAt (n : Int) : List Wr → Option Wr
 | [] => none
 | x :: l => match lastAt n l with
  | some y => some y
  | none => if x.pos = n then some x else none
theorem lastAt_snoc (n : Int) (x : Wr) : ∀ l : List Wr, lastAt n (l ++ [x]) = if x.pos = n then some x else lastAt n l
 | [] => by simp [lastAt]
 | y :: l => by
  simp only [List.cons_append, lastAt, lastAt_snoc n x l]
  by_cases h : x.pos = n
  ·simp [h]
  ·simp [h]
def foundH (K : Heap) (n : Int) (z : List V) (W : List (List V)) : Option Wr → Heap
 | none => RH K n z 0 W 0 0
 | some x => RH K n (bys x.s) 0 W 2 1
theorem back_loop (K : Heap) (n : Int) (z : List V) (hz : z.length = 32) (ws : List Wr) (hw : ∀ x ∈ ws, x.s.length = 32) (hl : ws.length ≤ 1000) (k : List Item) (Q : Option (V × Heap)) (he : ∀ φ, M (eval tbl noExt) k φ (RH K n z 0 (ws.map Wr.cells) 0 0) = Q ∨ lastAt n ws ≠ none)
  (hr : ∀ φ x, lastAt n ws = some x → retK (.blk 0 :: k) φ (RH K n (bys x.s) 0 (ws.map Wr.cells) 2 1) = Q) :
  ∀ (j : Nat) (φ : Fr), j ≤ ws.length → lastAt n ws = lastAt n (ws.take j) → Fr.get φ 0 = .yld (K.length + 4) → Fr.get φ 1 = .ptr (K.length + 3) 0 → Fr.get φ 3 = iw ((j : Int) - 1) →
   M (eval tbl noExt) (.code l_slices_Backward_api_Write_api_Write_1_0 :: .blk 0 :: k) φ (RH K n z 0 (ws.map Wr.cells) 0 0) = Q := by
 intro j
 induction j with
 | zero =>
  intro φ hj e h0 h1 h3
  rw [l_slices_Backward_api_Write_api_Write_1_0, M_loop, ← l_slices_Backward_api_Write_api_Write_1_0]
  have hlt : ¬ ((-1 : Int) ≥ 0) := by omega
  simp only [List.take_zero, lastAt] at e
  simp [b_slices_Backward_api_Write_api_Write_1_0, h0, h1, h3, hlt]
  rcases he _ with h | h
  ·exact h
  ·exact absurd e h
 | succ j ih =>
  intro φ hj e h0 h1 h3
  have hj1 : j < ws.length := by omega
  have hx := hw ws[j] (List.getElem_mem hj1)
  have e2 : ws.take (j + 1) = ws.take j ++ [ws[j]] := by rw [List.take_add_one, List.getElem?_eq_getElem hj1]; rfl
  rw [e2, lastAt_snoc] at e
  rw [l_slices_Backward_api_Write_api_Write_1_0, M_loop, ← l_slices_Backward_api_Write_api_Write_1_0]
  have g1 : (0 : Int) ≤ j := by omega
  have g2 : (j : Int) < ws.length := by omega
  have q4 := Wr.take hx
  have q5 := ws[j].strip
  have q6 := Wr.len hx
  have h3' : Fr.get φ 3 = iw (j : Int) := by rw [h3]; congr 1; omega
  have gw : IntKind.i64.wrap ((j : Int) - 1) = (j : Int) - 1 := w64 (by omega) (by omega)
  by_cases hp : ws[j].pos = n
  ·rw [if_pos hp] at e
   have hy := ryield_eq K n z hz (ws.map Wr.cells) ws[j] hx hp j
   simp [b_slices_Backward_api_Write_api_Write_1_0, h0, h1, h3', g1, g2, gk, hj1, q4, q5, q6, hy, gw]
   exact hr _ _ e
  ·rw [if_neg hp] at e
   have hy := ryield_ne K n z (ws.map Wr.cells) ws[j] hx hp j
   simp [b_slices_Backward_api_Write_api_Write_1_0, h0, h1, h3', g1, g2, gk, hj1, q4, q5, q6, hy, gw]
   refine ih _ (by omega) e ?_ ?_ ?_
   all_goals simp [h0, h1]
theorem back_eq (K : Heap) (n : Int) (z : List V) (hz : z.length = 32) (ws : List Wr) (hw : ∀ x ∈ ws, x.s.length = 32) (hl : ws.length ≤ 1000) :
  eval tbl noExt n_slices_Backward_api_Write_api_Write_1 [.yld (K.length + 4), .ptr (K.length + 3) 0] (RH K n z 0 (ws.map Wr.cells) 0 0) = some (.tup [], foundH K n z (ws.map Wr.cells) (lastAt n ws)) := by
 have gw : IntKind.i64.wrap ((ws.length : Int) - 1) = (ws.length : Int) - 1 := w64 (by omega) (by omega)
 rw [eval_M rfl rfl t_slices_Backward_api_Write_api_Write_1 rfl]
 simp [c_slices_Backward_api_Write_api_Write_1, gk, gw]
 refine back_loop K n z hz ws hw hl _ _ ?_ ?_ ws.length _ (Nat.le_refl _) (by rw [List.take_length]) ?_ ?_ ?_
 ·intro φ
  cases e : lastAt n ws with
  | none => exact .inl (by simp [foundH, RH, tkj])
  | some x => exact .inr (by simp)
 ·intro φ x e
  simp [e, foundH, RH, tkj]
 all_goals simp
def zero32 : List UInt8 := List.replicate 32 0
theorem bys_zero32 : bys zero32 = zeroSec := rfl
def Dsk.at (d : Dsk) (n : Int) : List UInt8 := if 0 ≤ n ∧ n < d.safe.length then (match lastAt n d.wait with
  | some x => x.s
  | none => d.safe.getD n.toNat zero32)
 else zero32
def Dsk.err (d : Dsk) (n : Int) : Int := if 0 ≤ n ∧ n < d.safe.length then 0 else 1
theorem lastAt_mem {n : Int} {x : Wr} : ∀ {l : List Wr}, lastAt n l = some x → x ∈ l
 | y :: l, h => by
  unfold lastAt at h
  cases e : lastAt n l with
  | some z => rw [e] at h; cases h; exact List.mem_cons_of_mem _ (lastAt_mem e)
  | none =>
   rw [e] at h
   by_cases hp : y.pos = n
   ·simp only [if_pos hp, Option.some.injEq] at h; subst h; exact List.mem_cons_self ..
   ·simp [hp] at h
theorem Read_eq (K : Heap) (d : Dsk) (hK : K[1]? = some (some d.cells)) (ok : d.ok) (n : Int) : eval tbl noExt n_pbdisk_Disk_Read [.ptr 1 0, iw n] K = some (.tup [.agg (bys (d.at n)), iw (d.err n)], K) := by
 have hc : d.cells = [.nilm, iw d.next, .sl 32 (d.safe.map bys), wv 36 (d.wait.map Wr.cells), wv 38 d.log, iw 0] := rfl
 have hK2 : ∀ L : Heap, (K ++ L)[1]? = some (some d.cells) := fun L => by
  rw [List.getElem?_append_left (by
   rcases Nat.lt_or_ge 1 K.length with h | h
   ·exact h
   ·rw [List.getElem?_eq_none h] at hK; cases hK)]; exact hK
 have hK3 : ∀ (L : Heap) h, (K ++ L)[1]'h = some d.cells := fun L h => by
  have := hK2 L
  rw [List.getElem?_eq_getElem h] at this; exact Option.some.inj this
 have hH := fun L => has_eq (K ++ L) d (hK2 L) ok n
 have l0 := ok.high
 rw [eval_M rfl rfl t_pbdisk_Disk_Read rfl]
 by_cases h : 0 ≤ n ∧ n < d.safe.length
 ·have hat : d.at n = match lastAt n d.wait with
   | some x => x.s
   | none => d.safe.getD n.toNat zero32 := by unfold Dsk.at; rw [if_pos h]
  have her : d.err n = 0 := by unfold Dsk.err; rw [if_pos h]
  have hb := back_eq K n zeroSec rfl d.wait ok.wok ok.wl
  have hB : ∀ W : List (List V), eval tbl noExt n_slices_Backward_api_Write_api_Write [.sl 36 W] (K ++ [some [iw n], some zeroSec, some [iw 0]]) = some (.fn (.func n_slices_Backward_api_Write_api_Write_1) [] [.ptr (K.length + 3) 0], K ++ [some [iw n], some zeroSec, some [iw 0], some [.sl 36 W]]) := fun W => by
   rw [eval_M rfl rfl t_slices_Backward_api_Write_api_Write rfl]
   simp [c_slices_Backward_api_Write_api_Write]
  obtain ⟨m, rfl⟩ : ∃ m : Nat, n = m := ⟨n.toNat, by omega⟩
  have hm : m < d.safe.length := by omega
  have hd : (decide ((0 : Int) ≤ m) && decide ((m : Int) < d.safe.length)) = true := by simp [hm]
  have hs : (d.safe[m]).length = 32 := ok.sec _ (List.getElem_mem hm)
  rw [hat, her]
  have z32 : zeroSec.length = 32 := rfl
  have hws := wv_strip 36 (d.wait.map Wr.cells)
  simp only [V.strip] at hws
  cases e : lastAt (m : Int) d.wait with
  | none =>
   rw [e] at hb
   simp only [foundH] at hb
   have g1 : (d.safe.getD (m : Int).toNat zero32) = d.safe[m] := by
    rw [Int.toNat_natCast, List.getD_eq_getElem?_getD, List.getElem?_eq_getElem hm]; rfl
   obtain ⟨s, hs0⟩ : ∃ s, s = d.safe[m] := ⟨_, rfl⟩
   have hgs : ∀ h, d.safe[m]'h = s := fun _ => hs0.symm
   rw [← hs0] at hs g1
   dsimp only
   rw [g1]
   have q9 := h32 (bys_ok hs)
   have q10 : (bys s).length = 32 := by simp [bys, hs]
   have q11 := bys_strip s
   have q12 := bys_one s
   have q13 := fun n => bys_under n s
   have q14 : (bys s).take 32 = bys s := List.take_of_length_le (by omega)
   simp only [RH, zeroSec, List.replicate] at hb hB
   simp [-List.all_eq_true, c_pbdisk_Disk_Read, gk, gk0, sk, sk0, tk0, tkj, hH, hd, hm, hc, hws, hK2, hK3, hB, hb, r_pbdisk_Disk_Read_0, recAt, q9, q10, q11, q12, q13, q14, hgs]
  | some x =>
   rw [e] at hb
   have hs := ok.wok x (lastAt_mem e)
   simp only [foundH, RH, zeroSec, List.replicate] at hb hB
   dsimp only
   generalize x.s = s at *
   have q9 := h32 (bys_ok hs)
   have q10 : (bys s).length = 32 := by simp [bys, hs]
   have q11 := bys_strip s
   have q13 := fun n => bys_under n s
   have q14 : (bys s).take 32 = bys s := List.take_of_length_le (by omega)
   simp [-List.all_eq_true, c_pbdisk_Disk_Read, gk, gk0, sk, sk0, tk0, tkj, hH, hd, hm, hc, hws, hK2, hK3, hB, hb, recAt, q9, q10, q11, q13, q14]
 ·have hat : d.at n = zero32 := by unfold Dsk.at; rw [if_neg h]
  have her : d.err n = 1 := by unfold Dsk.err; rw [if_neg h]
  have hd : (decide (0 ≤ n) && decide (n < d.safe.length)) = false := by
   rw [Bool.eq_false_iff]; intro h2; simp only [Bool.and_eq_true, decide_eq_true_eq] at h2; exact h h2
  rw [hat, her]
  simp [c_pbdisk_Disk_Read, gk, gk0, sk, sk0, tk0, hH, hd, bys_zero32, zeroSec, List.replicate]
structure Has (K : Heap) (v : V) (m : List (List UInt8)) : Prop where
 sec : ∀ s ∈ m, s.length = 32
 len : m.length ≤ 65
 mem : (v = .nilp ∧ m = []) ∨ ∃ d : Dsk, v = .ptr 1 0 ∧ K[1]? = some (some d.cells) ∧ d.ok ∧ ∀ n : Nat, d.at n = m.getD n zero32
theorem Has.more {K : Heap} {v : V} {m : List (List UInt8)} (h : Has K v m) (L : Heap) : Has (K ++ L) v m := by
 refine ⟨h.sec, h.len, ?_⟩
 rcases h.mem with h | ⟨d, h1, h2, h3, h4⟩
 ·exact .inl h
 ·refine .inr ⟨d, h1, ?_, h3, h4⟩
  rw [List.getElem?_append_left (by
   rcases Nat.lt_or_ge 1 K.length with h | h
   ·exact h
   ·rw [List.getElem?_eq_none h] at h2; cases h2)]; exact h2
theorem Has.two {K : Heap} {v : V} {m : List (List UInt8)} (h : Has K v m) : v = .nilp ∨ v = .ptr 1 0 ∧ 1 < K.length := by
 rcases h.mem with ⟨rfl, _⟩ | ⟨d, rfl, h2, _⟩
 ·exact .inl rfl
 ·refine .inr ⟨rfl, ?_⟩
  rcases Nat.lt_or_ge 1 K.length with h | h
  ·exact h
  ·rw [List.getElem?_eq_none h] at h2; cases h2
def secM (m : List (List UInt8)) (n : Nat) : List UInt8 := m.getD n zero32
theorem secM_len {m : List (List UInt8)} (h : ∀ s ∈ m, s.length = 32) (n : Nat) : (secM m n).length = 32 := by
 unfold secM
 rw [List.getD_eq_getElem?_getD]
 rcases Nat.lt_or_ge n m.length with h1 | h1
 ·rw [List.getElem?_eq_getElem h1]; exact h _ (List.getElem_mem h1)
 ·rw [List.getElem?_eq_none h1]; rfl
theorem Read_nil (K : Heap) (n : Int) : eval tbl noExt n_pbdisk_Disk_Read [.nilp, iw n] K = some (.tup [.agg (bys zero32), iw 1], K) := by
 have hH := fun L => has_nil (K ++ L) n
 rw [eval_M rfl rfl t_pbdisk_Disk_Read rfl]
 simp [c_pbdisk_Disk_Read, gk, gk0, sk, sk0, tk0, hH, bys_zero32, zeroSec, List.replicate]
theorem lookAt_eq {K : Heap} {v : V} {m : List (List UInt8)} (h : Has K v m) (n : Nat) : eval tbl noExt n_look_at [v, iw n] K = some (.agg (bys (secM m n)), K) := by
 obtain ⟨e, hR⟩ : ∃ e, ∀ L, eval tbl noExt n_pbdisk_Disk_Read [v, iw n] (K ++ L) = some (.tup [.agg (bys (secM m n)), iw e], K ++ L) := by
  rcases h.mem with ⟨rfl, rfl⟩ | ⟨d, rfl, h2, h3, h4⟩
  ·exact ⟨1, fun L => Read_nil _ _⟩
  ·refine ⟨d.err n, fun L => ?_⟩
   rw [secM, ← h4 n]
   exact Read_eq _ d (by
    rw [List.getElem?_append_left (by
     rcases Nat.lt_or_ge 1 K.length with h | h
     ·exact h
     ·rw [List.getElem?_eq_none h] at h2; cases h2)]; exact h2) h3 n
 have hs := secM_len h.sec n
 have h2 := h.two
 clear h
 generalize secM m n = s at *
 have q9 := h32 (bys_ok hs)
 have q10 : (bys s).length = 32 := by simp [bys, hs]
 have q11 := bys_strip s
 have q12 := bys_one s
 have q13 := fun n => bys_under n s
 have q14 : (bys s).take 32 = bys s := List.take_of_length_le (by omega)
 rw [eval_M rfl rfl t_look_at rfl]
 rcases h2 with rfl | ⟨rfl, _⟩ <;> simp [-List.all_eq_true, c_look_at, gk, gk0, sk, sk0, tk0, hR, q9, q10, q11, q12, q13, q14]
noncomputable def ent (m : List (List UInt8)) (k : Nat) : En := (entOf (secM m (17 + k))).1
noncomputable def ino (m : List (List UInt8)) (n : Nat) : Int × Int × Int × Int × Int × Int := (inoOf (secM m (1 + n))).1
theorem lookEntry_eq {K : Heap} {v : V} {m : List (List UInt8)} (h : Has K v m) (k : Nat) (hk : k < 24) : eval tbl noExt n_look_Entry [v, iw k] K = some (.agg (ent m k).cells, K) := by
 have hA := fun L => lookAt_eq (h.more L) (17 + k)
 have hE := EntryOf_eq (secM m (17 + k)) (secM_len h.sec _) []
 have h2 := h.two
 clear h
 have e1 : (entOf (secM m (17 + k))).1 = ent m k := rfl
 have hw : IntKind.i64.wrap (17 + (k : Int)) = ((17 + k : Nat) : Int) := by rw [w64 (by omega) (by omega)]; rfl
 push_cast at hA hw
 have g1 : ¬ (24 : Int) ≤ k := by omega
 have g2 : ¬ (k : Int) < 0 := by omega
 have hu := fun n => bys_under n (secM m (17 + k))
 have hu0 := bys_under 0 (secM m (17 + k))
 rw [e1] at hE
 generalize (entOf (secM m (17 + k))).2 = b at *
 generalize secM m (17 + k) = s at *
 generalize ent m k = x at *
 have hc : x.cells = [.bool x.used, iw x.parent, .str x.name, iw x.target] := rfl
 rw [eval_M rfl rfl t_look_Entry rfl]
 rcases h2 with rfl | ⟨rfl, _⟩ <;> simp [c_look_Entry, g1, g2, gk, gk0, sk, sk0, tk0, hA, hE, hu, hu0, hw, hc]
theorem lookInode_eq {K : Heap} {v : V} {m : List (List UInt8)} (h : Has K v m) (k : Nat) (hk : k < 16) : eval tbl noExt n_look_Inode [v, iw k] K = some (.agg (inoCells (ino m k)), K) := by
 have hA := fun L => lookAt_eq (h.more L) (1 + k)
 have hE := InodeOf_eq (secM m (1 + k)) (secM_len h.sec _) []
 have h2 := h.two
 clear h
 have e1 : (inoOf (secM m (1 + k))).1 = ino m k := rfl
 have hw : IntKind.i64.wrap (1 + (k : Int)) = ((1 + k : Nat) : Int) := by rw [w64 (by omega) (by omega)]; rfl
 push_cast at hA hw
 have g1 : ¬ (16 : Int) ≤ k := by omega
 have g2 : ¬ (k : Int) < 0 := by omega
 have hu := fun n => bys_under n (secM m (1 + k))
 have hu0 := bys_under 0 (secM m (1 + k))
 rw [e1] at hE
 generalize (inoOf (secM m (1 + k))).2 = b at *
 generalize secM m (1 + k) = s at *
 generalize ino m k = x at *
 have hc : inoCells x = [iw x.1, iw x.2.1, iw x.2.2.1, iw x.2.2.2.1, iw x.2.2.2.2.1, iw x.2.2.2.2.2] := rfl
 rw [eval_M rfl rfl t_look_Inode rfl]
 rcases h2 with rfl | ⟨rfl, _⟩ <;> simp [c_look_Inode, g1, g2, gk, gk0, sk, sk0, tk0, hA, hE, hu, hu0, hw, hc]
abbrev imgV (m : List (List UInt8)) : V := .sl 32 (m.map bys)
theorem ent_right (m : List (List UInt8)) (k : Nat) : (ent m k).right = true := by
 unfold ent entOf
 split
 ·rfl
 ·split
  ·rename_i h; exact h.1
  ·rfl
theorem ent_target {m : List (List UInt8)} {k : Nat} (h : (ent m k).used = true) : 1 ≤ (ent m k).target ∧ (ent m k).target < 16 := by
 have := right_used (ent_right m k) h
 exact ⟨this.2.2.1, this.2.2.2.1⟩
noncomputable def hit (m : List (List UInt8)) (n : Int) (k : Nat) : Bool := (ent m k).used && decide ((ent m k).target = n)
noncomputable def taken (m : List (List UInt8)) (n : Int) : Bool := (List.range 24).any (hit m n) || decide (n = 0)
noncomputable def inL (m : List (List UInt8)) : Nat → List Bool
 | 0 => true :: List.replicate 15 false
 | j + 1 => if (ent m j).used = true then (inL m j).set (ent m j).target.toNat true else inL m j
theorem inL_len (m : List (List UInt8)) : ∀ j, (inL m j).length = 16
 | 0 => rfl
 | j + 1 => by unfold inL; split <;> simp [inL_len m j]
theorem inL_get (m : List (List UInt8)) (n : Nat) (hn : n < 16) : ∀ j, (inL m j)[n]? = some ((List.range j).any (hit m n) || decide ((n : Int) = 0))
 | 0 => by
  unfold inL
  cases n with
  | zero => rfl
  | succ n =>
   have h1 : ¬ ((n : Int) + 1 = 0) := by omega
   rw [List.getElem?_cons_succ, List.getElem?_replicate, if_pos (by omega)]
   simp [h1]
 | j + 1 => by
  have ih := inL_get m n hn j
  unfold inL
  rw [List.range_succ, List.any_append]
  have hl := inL_len m j
  by_cases hu : (ent m j).used = true
  ·rw [if_pos hu]
   have ht := ent_target hu
   by_cases h : (ent m j).target = n
   ·have e : (ent m j).target.toNat = n := by omega
    rw [e, List.getElem?_set_self (by omega)]
    have : hit m n j = true := by unfold hit; rw [hu, decide_eq_true h]; rfl
    simp [this]
   ·have e : (ent m j).target.toNat ≠ n := by omega
    rw [List.getElem?_set_ne e, ih]
    have : hit m n j = false := by unfold hit; rw [hu, decide_eq_false h]; rfl
    simp [this]
  ·rw [if_neg hu, ih]
   have : hit m n j = false := by unfold hit; rw [Bool.not_eq_true] at hu; rw [hu]; rfl
   simp [this]
def bl (l : List Bool) : List V := l.map V.bool
theorem bl_set (l : List Bool) (i : Nat) (b : Bool) : (bl l).set i (.bool b) = bl (l.set i b) := (List.map_set ..).symm
theorem bl_strip (l : List Bool) : (bl l).map V.strip = bl l := by unfold bl; rw [List.map_map]; rfl
theorem bl_len (l : List Bool) : (bl l).length = l.length := by simp [bl]
theorem bl_get (l : List Bool) (i : Nat) : (bl l)[i]? = (l[i]?).map V.bool := by simp [bl]
theorem bl_one (l : List Bool) : (bl l).all V.one = true := by
 rw [List.all_eq_true]; intro v hv; obtain ⟨c, _, rfl⟩ := List.mem_map.1 hv; rfl
theorem bl_under (n : Nat) : ∀ l : List Bool, V.underAll n (bl l) = true
 | [] => rfl
 | c :: l => by
  show (V.under n (.bool c) && V.underAll n (bl l)) = true
  rw [bl_under n l]; rfl
theorem bl_put (a : List V) (l : List Bool) (h : a.length = l.length) : setMany a 0 (bl l) = bl l := setMany_self2 a _ (by rw [bl_len, h])
theorem inodes_loop {K : Heap} {v : V} {m : List (List UInt8)} (h : Has K v m) (Z : List V) (k : List Item) (Q : Option (V × Heap) → Prop)
  (he : ∀ φ A, Fr.get φ 2 = .ptr K.length 0 → Fr.get φ 3 = .ptr (K.length + 1) 0 → Q (M (eval tbl noExt) k φ (K ++ (some Z :: some (bl (inL m 24)) :: A)))) :
  ∀ (r j : Nat) (φ : Fr) (A : Heap), j + r = 24 → Fr.get φ 0 = v → Fr.get φ 2 = .ptr K.length 0 → Fr.get φ 3 = .ptr (K.length + 1) 0 → Fr.get φ 7 = iw j → Q (M (eval tbl noExt) (.code l_alloc_inodes_0 :: .blk 0 :: k) φ (K ++ (some Z :: some (bl (inL m j)) :: A))) := by
 have h2 := h.two
 intro r
 induction r with
 | zero =>
  intro j φ A hj h0 h2 h3 h7
  obtain rfl : j = 24 := by omega
  rw [l_alloc_inodes_0, M_loop, ← l_alloc_inodes_0]
  simp [b_alloc_inodes_0, h0, h2, h3, h7]
  exact he _ _ (by simp [h2]) (by simp [h3])
 | succ r ih =>
  intro j φ A hj h0 g2 h3 h7
  have hlt : (j : Int) < 24 := by omega
  have hE := fun L => lookEntry_eq (h.more L) j (by omega)
  have hw : IntKind.i64.wrap ((j : Int) + 1) = ((j + 1 : Nat) : Int) := by rw [w64 (by omega) (by omega)]; rfl
  have hc : (ent m j).cells = [.bool (ent m j).used, iw (ent m j).parent, .str (ent m j).name, iw (ent m j).target] := rfl
  have hl := (bl_len _).trans (inL_len m j)
  rw [l_alloc_inodes_0, M_loop, ← l_alloc_inodes_0]
  have eA : ∀ X : Heap, K ++ (some Z :: some (bl (inL m (j + 1))) :: X) = K ++ (some Z :: some (bl (inL m (j + 1))) :: X) := fun _ => rfl
  have gA : ∀ x : Option (List V), (K ++ (some Z :: some (bl (inL m j)) :: (A ++ [x])))[K.length + (A.length + 2)]? = some x := fun x => by
   rw [gk]; simp
  have sA : ∀ x y : Option (List V), (K ++ (some Z :: some (bl (inL m j)) :: (A ++ [x]))).set (K.length + (A.length + 2)) y = K ++ (some Z :: some (bl (inL m j)) :: (A ++ [y])) := fun x y => by
   rw [sk]; simp
  cases hu : (ent m j).used with
  | false =>
   have e : inL m (j + 1) = inL m j := by show (if _ then _ else _) = _; rw [hu]; rfl
   rcases h2 with rfl | ⟨rfl, hp⟩ <;>
   ·simp [b_alloc_inodes_0, h0, g2, h3, h7, hlt, hE, hc, hw, hu, gk, gk0, sk, sk0, gA, sA, Nat.add_assoc]
    rw [← e]
    refine ih (j + 1) _ _ (by omega) ?_ ?_ ?_ ?_
    all_goals simp [h0, g2, h3]
  | true =>
   have ht := ent_target hu
   obtain ⟨t, ht2⟩ : ∃ t : Nat, (ent m j).target = t := ⟨(ent m j).target.toNat, by omega⟩
   have ht3 : t < 16 := by omega
   have ht4 : (t : Int) < 16 := by omega
   have ht5 : t ≤ 15 := by omega
   have e : inL m (j + 1) = (inL m j).set t true := by
    show (if _ then _ else _) = _
    rw [if_pos hu, ht2]; rfl
   rcases h2 with rfl | ⟨rfl, hp⟩ <;>
   ·simp [b_alloc_inodes_0, h0, g2, h3, h7, hlt, hE, hc, hw, hu, ht2, ht3, ht4, ht5, gk, gk0, sk, sk0, gA, sA, Nat.add_assoc, hl, bl_set]
    rw [← e]
    refine ih (j + 1) _ _ (by omega) ?_ ?_ ?_ ?_
    all_goals simp [h0, g2, h3]
theorem inodes_eq {K : Heap} {v : V} {m : List (List UInt8)} (h : Has K v m) : eval tbl noExt n_alloc_inodes [v] K = some (.agg (bl (inL m 24)), K) := by
 have e0 : [V.bool true, V.bool false, V.bool false, V.bool false, V.bool false, V.bool false, V.bool false, V.bool false, V.bool false, V.bool false, V.bool false, V.bool false, V.bool false, V.bool false, V.bool false, V.bool false] = bl (inL m 0) := rfl
 have hl := (bl_len _).trans (inL_len m 24)
 have q1 := bl_strip (inL m 24)
 have q2 := bl_one (inL m 24)
 have q3 := fun n => bl_under n (inL m 24)
 have q4 : ∀ x0 x1 x2 x3 x4 x5 x6 x7 x8 x9 x10 x11 x12 x13 x14 x15 : V, setMany [x0, x1, x2, x3, x4, x5, x6, x7, x8, x9, x10, x11, x12, x13, x14, x15] 0 (bl (inL m 24)) = bl (inL m 24) := fun _ _ _ _ _ _ _ _ _ _ _ _ _ _ _ _ => bl_put _ _ (by rw [inL_len]; rfl)
 have q5 : (bl (inL m 24)).take 16 = bl (inL m 24) := List.take_of_length_le (by omega)
 have hloop := fun Z k Q he φ h0 h2 h3 h7 => inodes_loop h Z k Q he 24 0 φ [] rfl h0 h2 h3 h7
 rw [eval_M rfl rfl t_alloc_inodes rfl]
 simp [c_alloc_inodes, gk, gk0, sk, sk0]
 rw [e0]
 refine hloop _ _ (fun x => x = some (.agg (bl (inL m 24)), K)) ?_ _ ?_ ?_ ?_ ?_
 ·intro φ A h2 h3
  simp [-List.all_eq_true, r_alloc_inodes_0, h2, h3, gk, gk0, sk, sk0, tk0, hl, q1, q2, q3, q4, q5]
 all_goals simp
def pick (p : Nat → Bool) (n : Int) : Nat → Nat → Nat → List Nat
 | 0, _, _ => []
 | r + 1, i, c => if (c : Int) < n then (if p i = true then pick p n r (i + 1) c else i :: pick p n r (i + 1) (c + 1)) else []
abbrev nr (l : List Nat) : List (List V) := l.map fun (i : Nat) => [iw (i : Int)]
theorem first_loop {f : Nat} {c0 : V} {p : Nat → Bool} {K : Heap} (hf : f < yBase) (low all : Nat) (hall : all ≤ 1000) (n : Int) (hp : ∀ i, low ≤ i → i < all → eval tbl noExt f [iw (i : Int), c0] K = some (.bool (p i), K)) (k : List Item) (Q : Option (V × Heap) → Prop) (Z : List Nat)
  (he : ∀ φ, Fr.get φ 9 = .own 1 (nr Z) → Q (M (eval tbl noExt) k φ K)) :
  ∀ (r i : Nat) (out : List Nat) (φ : Fr), low ≤ i → i + r = all → Z = out ++ pick p n r i out.length → out.length ≤ i → Fr.get φ 1 = iw all → Fr.get φ 2 = iw n → Fr.get φ 3 = .fn (.func f) [] [c0] → Fr.get φ 9 = .own 1 (nr out) → Fr.get φ 10 = iw i →
   Q (M (eval tbl noExt) (.code l_alloc_first_0 :: .blk 0 :: k) φ K) := by
 intro r
 induction r with
 | zero =>
  intro i out φ hi hr hZ ho h1 h2 h3 h9 h10
  have hlt : ¬ ((i : Int) < all) := by omega
  have hlt' : ¬ (i < all) := by omega
  rw [l_alloc_first_0, M_loop, ← l_alloc_first_0]
  simp [b_alloc_first_0, h1, h2, h3, h9, h10, hlt']
  refine he _ ?_
  rw [hZ]
  simp [pick, h9]
 | succ r ih =>
  intro i out φ hi hr hZ ho h1 h2 h3 h9 h10
  have hlt : (i : Int) < all := by omega
  have hlt' : i < all := by omega
  have hw : IntKind.i64.wrap ((i : Int) + 1) = ((i + 1 : Nat) : Int) := by rw [w64 (by omega) (by omega)]; rfl
  have hP := hp i hi hlt'
  rw [l_alloc_first_0, M_loop, ← l_alloc_first_0]
  unfold pick at hZ
  by_cases hc : (out.length : Int) < n
  ·rw [if_pos hc] at hZ
   cases hb : p i with
   | true =>
    rw [if_pos hb] at hZ
    rw [hb] at hP
    simp [b_alloc_first_0, h1, h2, h3, h9, h10, hlt', hc, hf, hP, hw]
    refine ih (i + 1) out _ (by omega) (by omega) hZ (by omega) ?_ ?_ ?_ ?_ ?_
    all_goals simp [h1, h2, h3, h9]
   | false =>
    rw [if_neg (by rw [hb]; simp)] at hZ
    rw [hb] at hP
    have g1 : 2 * (out.length + 1) * 8 ≤ 281474976710656 := by omega
    simp [b_alloc_first_0, h1, h2, h3, h9, h10, hlt', hc, hf, hP, hw, g1]
    refine ih (i + 1) (out ++ [i]) _ (by omega) (by omega) (by rw [hZ]; simp) (by simp; omega) ?_ ?_ ?_ ?_ ?_
    all_goals simp [h1, h2, h3, h9]
  ·rw [if_neg hc] at hZ
   simp [b_alloc_first_0, h1, h2, h3, h9, h10, hlt', hc]
   refine he _ ?_
   rw [hZ]
   simp [h9]
theorem first_eq {f : Nat} {c0 : V} {p : Nat → Bool} {K : Heap} (hf : f < yBase) (low all : Nat) (hle : low ≤ all) (hall : all ≤ 1000) (n : Int) (hp : ∀ i, low ≤ i → i < all → eval tbl noExt f [iw (i : Int), c0] K = some (.bool (p i), K)) :
  eval tbl noExt n_alloc_first [iw low, iw all, iw n, .fn (.func f) [] [c0]] K = some (.own 1 (nr (pick p n (all - low) low 0)), K) := by
 rw [eval_M rfl rfl t_alloc_first rfl]
 simp [c_alloc_first]
 refine first_loop hf low all hall n hp _ (fun x => x = some (.own 1 (nr (pick p n (all - low) low 0)), K)) (pick p n (all - low) low 0) ?_ (all - low) low [] _ (Nat.le_refl _) (by omega) rfl (by simp) ?_ ?_ ?_ ?_ ?_
 ·intro φ h9
  simp [r_alloc_first_0, h9]
 all_goals simp
theorem one_eq (l : List Nat) (K : Heap) : eval tbl noExt n_alloc_one [.sl 1 (nr l)] K = some (.tup [iw (l.headD 0 : Nat), .bool (!l.isEmpty)], K) := by
 rw [eval_M rfl rfl t_alloc_one rfl]
 cases l with
 | nil => simp [c_alloc_one]
 | cons x l =>
  have h1 : ¬ ((l.length : Int) + 1 = 0) := by omega
  simp [c_alloc_one, h1]
theorem inL_taken (m : List (List UInt8)) (n : Nat) (hn : n < 16) : (inL m 24)[n]? = some (taken m n) := inL_get m n hn 24
theorem Inode1_eq {H : Heap} {j i n : Nat} {L : List Bool} (hn : n < 1000) {b : Bool} (hH : H[j]? = some (some (bl L))) (hL : L.length = 16) (hi : i < 16) (hb : L[i]? = some b) : eval tbl noExt n_alloc_Inode_1 [iw i, .ptr j 0] H = some (.bool b, H) := by
 have h1 : (i : Int) < 16 := by omega
 have h2 := bl_get L i
 rw [hb] at h2
 have h3 : ∀ h, H[j]'h = some (bl L) := fun h => by rw [List.getElem?_eq_getElem h] at hH; exact Option.some.inj hH
 have h4 : i ≤ 15 := by omega
 rw [eval_M rfl rfl t_alloc_Inode_1 rfl]
 simp [c_alloc_Inode_1, hH, h1, h2, h3, h4, hi]
theorem Inode_eq2 {K : Heap} {v : V} {m : List (List UInt8)} (h : Has K v m) : eval tbl noExt n_alloc_Inode [v] K = some (.tup [iw ((pick (taken m ·) 1 16 0 0).headD 0 : Nat), .bool (!(pick (taken m ·) 1 16 0 0).isEmpty)], K) := by
 have hI := inodes_eq h
 have hl := (bl_len _).trans (inL_len m 24)
 have q2 := bl_one (inL m 24)
 have q3 := fun n => bl_under n (inL m 24)
 have q4 : ∀ x0 x1 x2 x3 x4 x5 x6 x7 x8 x9 x10 x11 x12 x13 x14 x15 : V, setMany [x0, x1, x2, x3, x4, x5, x6, x7, x8, x9, x10, x11, x12, x13, x14, x15] 0 (bl (inL m 24)) = bl (inL m 24) := fun _ _ _ _ _ _ _ _ _ _ _ _ _ _ _ _ => bl_put _ _ (by rw [inL_len]; rfl)
 have hF := first_eq (f := n_alloc_Inode_1) (c0 := .ptr K.length 0) (p := (taken m ·)) (K := K ++ [some (bl (inL m 24))]) lt_alloc_Inode_1 0 16 (by omega) (by omega) 1 (fun i _ hi => Inode1_eq (n := 0) (by omega) (by rw [gk0]; rfl) (inL_len m 24) hi (inL_taken m i hi))
 have hO := one_eq (pick (taken m ·) 1 16 0 0) []
 have h2 := h.two
 simp only [Nat.sub_zero] at hF
 generalize pick (taken m ·) 1 16 0 0 = P at *
 rw [eval_M rfl rfl t_alloc_Inode rfl]
 rcases h2 with rfl | ⟨rfl, hp⟩ <;>
 simp [-List.all_eq_true, c_alloc_Inode, hI, gk, gk0, sk, sk0, tk0, hl, q2, q3, q4, hO] <;>
 (simp at hF; simp [hF, hO, tk0])
theorem Slot1_eq {H : Heap} {v : V} {m : List (List UInt8)} (h : Has H v m) {j : Nat} (hH : H[j]? = some (some [v])) (i : Nat) (hi : i < 24) : eval tbl noExt n_alloc_Slot_1 [iw i, .ptr j 0] H = some (.bool (ent m i).used, H) := by
 have hE := lookEntry_eq h i hi
 have h3 : ∀ h, H[j]'h = some [v] := fun h => by rw [List.getElem?_eq_getElem h] at hH; exact Option.some.inj hH
 have hc : (ent m i).cells = [.bool (ent m i).used, iw (ent m i).parent, .str (ent m i).name, iw (ent m i).target] := rfl
 have h2 := h.two
 rw [eval_M rfl rfl t_alloc_Slot_1 rfl]
 rcases h2 with rfl | ⟨rfl, hp⟩ <;>
 simp [c_alloc_Slot_1, hH, h3, hE, hc]
noncomputable def usedK (m : List (List UInt8)) (k : Nat) : Bool := (ent m k).used
theorem Slot_eq2 {K : Heap} {v : V} {m : List (List UInt8)} (h : Has K v m) : eval tbl noExt n_alloc_Slot [v] K = some (.tup [iw ((pick (usedK m) 1 24 0 0).headD 0 : Nat), .bool (!(pick (usedK m) 1 24 0 0).isEmpty)], K) := by
 have hF := first_eq (f := n_alloc_Slot_1) (c0 := .ptr K.length 0) (p := usedK m) (K := K ++ [some [v]]) lt_alloc_Slot_1 0 24 (by omega) (by omega) 1 (fun i _ hi => Slot1_eq (h.more _) (by rw [gk0]; rfl) i hi)
 have hO := one_eq (pick (usedK m) 1 24 0 0) []
 have h2 := h.two
 simp only [Nat.sub_zero] at hF
 generalize pick (usedK m) 1 24 0 0 = P at *
 rw [eval_M rfl rfl t_alloc_Slot rfl]
 rcases h2 with rfl | ⟨rfl, hp⟩ <;>
 (simp at hF; simp [c_alloc_Slot, hF, gk, gk0, sk, sk0, tk0, hO])
theorem ino_ok (m : List (List UInt8)) (n : Nat) : okOf (ino m n) = true := by
 unfold ino inoOf
 split
 ·rename_i h; exact h.1
 ·rfl
structure Bs (x : Int × Int × Int × Int × Int × Int) (a b c d : Nat) : Prop where
 e : x.2.2.1 = a ∧ x.2.2.2.1 = b ∧ x.2.2.2.2.1 = c ∧ x.2.2.2.2.2 = d
 le : a ≤ 24 ∧ b ≤ 24 ∧ c ≤ 24 ∧ d ≤ 24
 zero : x.1 ≠ 1 → a = 0 ∧ b = 0 ∧ c = 0 ∧ d = 0
theorem bs_of (m : List (List UInt8)) (n : Nat) : ∃ a b c d, Bs (ino m n) a b c d := by
 have h := ino_ok m n
 unfold okOf at h
 have hb := ino_bounds h
 refine ⟨(ino m n).2.2.1.toNat, (ino m n).2.2.2.1.toNat, (ino m n).2.2.2.2.1.toNat, (ino m n).2.2.2.2.2.toNat, ⟨by omega, by omega, by omega, by omega⟩, by omega, fun hk => ?_⟩
 unfold inoOK at h
 rw [if_neg hk] at h
 split at h
 ·simp only [decide_eq_true_eq] at h; omega
 ·cases h
def put4 (L : List Bool) (a b c d : Nat) : List Bool := (((L.set a (decide (0 < a))).set b (decide (0 < b))).set c (decide (0 < c))).set d (decide (0 < d))
theorem blk_inner {K : Heap} {Z : List V} {L : List Bool} (hL : L.length = 25) {a b c d : Nat} (ha : a ≤ 24) (hb : b ≤ 24) (hc : c ≤ 24) (hd : d ≤ 24) (k : List Item) (Q : Option (V × Heap) → Prop) (v t9 : V) (j : Nat)
  (he : ∀ φ, Fr.get φ 0 = v → Fr.get φ 2 = .ptr K.length 0 → Fr.get φ 3 = .ptr (K.length + 1) 0 → Fr.get φ 9 = t9 → Fr.get φ 10 = iw j → Q (M (eval tbl noExt) k φ (K ++ [some Z, some (bl (put4 L a b c d))])))
  (φ : Fr) (h0 : Fr.get φ 0 = v) (h2 : Fr.get φ 2 = .ptr K.length 0) (h3 : Fr.get φ 3 = .ptr (K.length + 1) 0) (h9 : Fr.get φ 9 = t9) (h10 : Fr.get φ 10 = iw j) (h19 : Fr.get φ 19 = .agg [iw a, iw b, iw c, iw d]) (h20 : Fr.get φ 20 = iw 0) :
  Q (M (eval tbl noExt) (.code l_alloc_blocks_0 :: .blk 2 :: k) φ (K ++ [some Z, some (bl L)])) := by
 have w1 : IntKind.i64.wrap 1 = 1 := rfl
 have w2 : IntKind.i64.wrap 2 = 2 := rfl
 have w3 : IntKind.i64.wrap 3 = 3 := rfl
 have w4 : IntKind.i64.wrap 4 = 4 := rfl
 have i1 : (a : Int) < 25 := by omega
 have i2 : (b : Int) < 25 := by omega
 have i3 : (c : Int) < 25 := by omega
 have i4 : (d : Int) < 25 := by omega
 have l0 := (bl_len L).trans hL
 have hs : ∀ (X : List Bool) (i : Nat) (q : Bool), (bl X).set i (.bool q) = bl (X.set i q) := bl_set
 have hlen : ∀ X : List Bool, (bl X).length = X.length := bl_len
 rw [l_alloc_blocks_0, M_loop, ← l_alloc_blocks_0]
 simp [b_alloc_blocks_0, h0, h2, h3, h9, h10, h19, h20, i1, ha, gk, gk0, sk, sk0, hs, hlen, hL, w1]
 rw [l_alloc_blocks_0, M_loop, ← l_alloc_blocks_0]
 simp [b_alloc_blocks_0, h0, h2, h3, h9, h10, h19, h20, i2, hb, gk, gk0, sk, sk0, hs, hlen, hL, w1, w2]
 rw [l_alloc_blocks_0, M_loop, ← l_alloc_blocks_0]
 simp [b_alloc_blocks_0, h0, h2, h3, h9, h10, h19, h20, i3, hc, gk, gk0, sk, sk0, hs, hlen, hL, w2, w3]
 rw [l_alloc_blocks_0, M_loop, ← l_alloc_blocks_0]
 simp [b_alloc_blocks_0, h0, h2, h3, h9, h10, h19, h20, i4, hd, gk, gk0, sk, sk0, hs, hlen, hL, w3, w4]
 rw [l_alloc_blocks_0, M_loop, ← l_alloc_blocks_0]
 simp [b_alloc_blocks_0, h0, h2, h3, h9, h10, h19, h20]
 have := fun φ a1 a2 a3 a4 a5 => he φ a1 a2 a3 a4 a5
 unfold put4 at this
 refine this _ ?_ ?_ ?_ ?_ ?_
 all_goals simp [h0, h2, h3, h9, h10]
def put6 (L : List Bool) (x : Int × Int × Int × Int × Int × Int) : List Bool := put4 L x.2.2.1.toNat x.2.2.2.1.toNat x.2.2.2.2.1.toNat x.2.2.2.2.2.toNat
theorem put6_of {x : Int × Int × Int × Int × Int × Int} {a b c d : Nat} (h : Bs x a b c d) (L : List Bool) : put6 L x = put4 L a b c d := by
 obtain ⟨h1, h2, h3, h4⟩ := h.e
 unfold put6
 rw [h1, h2, h3, h4]
 rfl
noncomputable def blkL (m : List (List UInt8)) : Nat → List Bool
 | 0 => List.replicate 25 false
 | j + 1 => if taken m j = true then put6 (blkL m j) (ino m j) else blkL m j
theorem put4_len (L : List Bool) (a b c d : Nat) : (put4 L a b c d).length = L.length := by simp [put4]
theorem blkL_len (m : List (List UInt8)) : ∀ j, (blkL m j).length = 25
 | 0 => rfl
 | j + 1 => by unfold blkL; split <;> simp [put6, put4_len, blkL_len m j]
theorem blk_loop {K : Heap} {v : V} {m : List (List UInt8)} (h : Has K v m) (Z : List V) (k : List Item) (Q : Option (V × Heap) → Prop)
  (he : ∀ φ, Fr.get φ 2 = .ptr K.length 0 → Fr.get φ 3 = .ptr (K.length + 1) 0 → Q (M (eval tbl noExt) k φ (K ++ [some Z, some (bl (blkL m 16))]))) :
  ∀ (r j : Nat) (φ : Fr), j + r = 16 → Fr.get φ 0 = v → Fr.get φ 2 = .ptr K.length 0 → Fr.get φ 3 = .ptr (K.length + 1) 0 → Fr.get φ 9 = .agg (bl (inL m 24)) → Fr.get φ 10 = iw j → Q (M (eval tbl noExt) (.code l_alloc_blocks_1 :: .blk 0 :: k) φ (K ++ [some Z, some (bl (blkL m j))])) := by
 have h2 := h.two
 intro r
 induction r with
 | zero =>
  intro j φ hj h0 g2 h3 h9 h10
  obtain rfl : j = 16 := by omega
  rw [l_alloc_blocks_1, M_loop, ← l_alloc_blocks_1]
  simp [b_alloc_blocks_1, h0, g2, h3, h9, h10]
  exact he _ (by simp [g2]) (by simp [h3])
 | succ r ih =>
  intro j φ hj h0 g2 h3 h9 h10
  have hlt : (j : Int) < 16 := by omega
  have hlt' : j < 16 := by omega
  have hI := fun L => lookInode_eq (h.more L) j (by omega)
  have hw : IntKind.i64.wrap ((j : Int) + 1) = ((j + 1 : Nat) : Int) := by rw [w64 (by omega) (by omega)]; rfl
  have hT := bl_get (inL m 24) j
  rw [inL_taken m j hlt'] at hT
  simp only [Option.map_some] at hT
  rw [l_alloc_blocks_1, M_loop, ← l_alloc_blocks_1]
  cases ht : taken m j with
  | false =>
   have e : blkL m (j + 1) = blkL m j := by show (if _ then _ else _) = _; rw [ht]; rfl
   rw [ht] at hT
   simp [b_alloc_blocks_1, h0, g2, h3, h9, h10, hlt, hlt', hT, hw, r_alloc_blocks_0]
   rw [← e]
   refine ih (j + 1) _ (by omega) ?_ ?_ ?_ ?_ ?_
   all_goals simp [h0, g2, h3, h9]
  | true =>
   rw [ht] at hT
   obtain ⟨a, b, c, d, hB⟩ := bs_of m j
   have e : blkL m (j + 1) = put4 (blkL m j) a b c d := by
    show (if _ then _ else _) = _
    rw [if_pos ht, put6_of hB]
   obtain ⟨e1, e2, e3, e4⟩ := hB.e
   obtain ⟨l1, l2, l3, l4⟩ := hB.le
   have hc : inoCells (ino m j) = [iw (ino m j).1, iw (ino m j).2.1, iw a, iw b, iw c, iw d] := by unfold inoCells; rw [e1, e2, e3, e4]
   obtain ⟨u, hu⟩ : ∃ u, u = v := ⟨_, rfl⟩
   rcases h2 with rfl | ⟨rfl, hp⟩ <;>
   ·simp [b_alloc_blocks_1, h0, g2, h3, h9, h10, hlt, hlt', hT, hw, hI, hc]
    refine blk_inner (blkL_len m j) l1 l2 l3 l4 _ Q u (.agg (bl (inL m 24))) j ?_ _ ?_ ?_ ?_ ?_ ?_ ?_ ?_
    rotate_left
    all_goals first | (simp [h0, g2, h3, h9, h10, hu]; done) | skip
    intro φ g0 g2 g3 g9 g10
    rw [← e]
    simp [r_alloc_blocks_0, g10, hw]
    refine ih (j + 1) _ (by omega) ?_ ?_ ?_ ?_ ?_
    all_goals simp [g0, g2, g3, g9, hu]
theorem blocks_eq {K : Heap} {v : V} {m : List (List UInt8)} (h : Has K v m) : eval tbl noExt n_alloc_blocks [v] K = some (.agg (bl (blkL m 16)), K) := by
 have e0 : [V.bool false, V.bool false, V.bool false, V.bool false, V.bool false, V.bool false, V.bool false, V.bool false, V.bool false, V.bool false, V.bool false, V.bool false, V.bool false, V.bool false, V.bool false, V.bool false, V.bool false, V.bool false, V.bool false, V.bool false, V.bool false, V.bool false, V.bool false, V.bool false, V.bool false] = bl (blkL m 0) := rfl
 have hl := (bl_len _).trans (blkL_len m 16)
 have q1 := bl_strip (blkL m 16)
 have q2 := bl_one (blkL m 16)
 have q3 := fun n => bl_under n (blkL m 16)
 have q4 : setMany (bl (blkL m 0)) 0 (bl (blkL m 16)) = bl (blkL m 16) := bl_put _ _ (by rw [bl_len, blkL_len, blkL_len])
 have q5 : (bl (blkL m 16)).take 25 = bl (blkL m 16) := List.take_of_length_le (by omega)
 have hl0 := (bl_len _).trans (blkL_len m 0)
 have hI := fun L => inodes_eq (h.more L)
 have hloop := fun Z k Q he φ h0 h2 h3 h9 h10 => blk_loop h Z k Q he 16 0 φ rfl h0 h2 h3 h9 h10
 have h2 := h.two
 rw [eval_M rfl rfl t_alloc_blocks rfl]
 rcases h2 with rfl | ⟨rfl, hp⟩ <;>
 ·simp [c_alloc_blocks, hI, gk, gk0, sk, sk0]
  rw [e0]
  refine hloop _ _ (fun x => x = some (.agg (bl (blkL m 16)), K)) ?_ _ ?_ ?_ ?_ ?_ ?_
  ·intro φ h2 h3
   simp [-List.all_eq_true, r_alloc_blocks_1, h2, h3, gk, gk0, sk, sk0, tk0, hl, hl0, q1, q2, q3, q4, q5]
  all_goals simp
theorem Blocks1_eq {H : Heap} {j i : Nat} {L : List Bool} {b : Bool} (hH : H[j]? = some (some (bl L))) (hL : L.length = 25) (hi : i < 25) (hb : L[i]? = some b) : eval tbl noExt n_alloc_Blocks_1 [iw i, .ptr j 0] H = some (.bool b, H) := by
 have h1 : (i : Int) < 25 := by omega
 have h2 := bl_get L i
 rw [hb] at h2
 have h3 : ∀ h, H[j]'h = some (bl L) := fun h => by rw [List.getElem?_eq_getElem h] at hH; exact Option.some.inj hH
 have h4 : i ≤ 24 := by omega
 rw [eval_M rfl rfl t_alloc_Blocks_1 rfl]
 simp [c_alloc_Blocks_1, hH, h1, h2, h3, h4, hi]
noncomputable def blkB (m : List (List UInt8)) (b : Nat) : Bool := (blkL m 16).getD b false
theorem blkB_get (m : List (List UInt8)) {b : Nat} (hb : b < 25) : (blkL m 16)[b]? = some (blkB m b) := by
 unfold blkB
 have hl := blkL_len m 16
 rw [List.getD_eq_getElem?_getD, List.getElem?_eq_getElem (by omega)]; rfl
theorem Blocks_eq2 {K : Heap} {v : V} {m : List (List UInt8)} (h : Has K v m) (n : Int) : eval tbl noExt n_alloc_Blocks [v, iw n] K = some (.tup (if ((pick (blkB m) n 24 1 0).length : Int) = n then [.sl 1 (nr (pick (blkB m) n 24 1 0)), .bool true] else [.sl 1 [], .bool false]), K) := by
 have hI := blocks_eq h
 have hl := (bl_len _).trans (blkL_len m 16)
 have q2 := bl_one (blkL m 16)
 have q3 := fun n => bl_under n (blkL m 16)
 have e0 : [V.bool false, V.bool false, V.bool false, V.bool false, V.bool false, V.bool false, V.bool false, V.bool false, V.bool false, V.bool false, V.bool false, V.bool false, V.bool false, V.bool false, V.bool false, V.bool false, V.bool false, V.bool false, V.bool false, V.bool false, V.bool false, V.bool false, V.bool false, V.bool false, V.bool false] = bl (blkL m 0) := rfl
 have q4 : setMany (bl (blkL m 0)) 0 (bl (blkL m 16)) = bl (blkL m 16) := bl_put _ _ (by rw [bl_len, blkL_len, blkL_len])
 rw [← e0] at q4
 have hF := first_eq (f := n_alloc_Blocks_1) (c0 := .ptr K.length 0) (p := blkB m) (K := K ++ [some (bl (blkL m 16))]) lt_alloc_Blocks_1 1 25 (by omega) (by omega) n (fun i _ hi => Blocks1_eq (by rw [gk0]; rfl) (blkL_len m 16) hi (blkB_get m hi))
 have h2 := h.two
 simp only [Nat.add_sub_cancel, show 25 - 1 = 24 from rfl] at hF
 generalize pick (blkB m) n 24 1 0 = P at *
 rw [eval_M rfl rfl t_alloc_Blocks rfl]
 by_cases hn : (P.length : Int) = n
 ·rw [if_pos hn]
  rcases h2 with rfl | ⟨rfl, hp⟩ <;>
  (simp at hF; simp [-List.all_eq_true, c_alloc_Blocks, hI, gk, gk0, sk, sk0, tk0, hl, q2, q3, q4, hF, hn])
 ·rw [if_neg hn]
  rcases h2 with rfl | ⟨rfl, hp⟩ <;>
  (simp at hF; simp [-List.all_eq_true, c_alloc_Blocks, hI, gk, gk0, sk, sk0, tk0, hl, q2, q3, q4, hF, hn])
def cnt : List Bool → Nat
 | [] => 0
 | b :: l => (if b = true then 1 else 0) + cnt l
theorem cnt_le : ∀ l : List Bool, cnt l ≤ l.length
 | [] => Nat.le_refl _
 | b :: l => by
  have := cnt_le l
  simp only [cnt, List.length_cons]; split <;> omega
abbrev br (l : List Bool) : List (List V) := l.map fun b => [V.bool b]
theorem cnt_loop_sl (L : List Bool) (hL : L.length ≤ 1000) (H : Heap) (k : List Item) (Q : Option (V × Heap) → Prop) (he : ∀ φ, Fr.get φ 3 = iw (cnt L) → Q (M (eval tbl noExt) k φ H)) :
  ∀ (r : List Bool) (j c : Nat) (φ : Fr), L.drop j = r → c + cnt r = cnt L → Fr.get φ 3 = iw c → Fr.get φ 6 = .sl 1 (br L) → Fr.get φ 7 = iw L.length → Fr.get φ 8 = iw j → Q (M (eval tbl noExt) (.code l_alloc_Count_1_0 :: .blk 0 :: k) φ H) := by
 have hcl := cnt_le L
 intro r
 induction r with
 | nil =>
  intro j c φ hd hc h3 h6 h7 h8
  have hj : L.length ≤ j := by rw [← Nat.sub_eq_zero_iff_le, ← List.length_drop, hd]; rfl
  have hlt : ¬ ((j : Int) < L.length) := by omega
  have hlt' : ¬ (j < L.length) := by omega
  rw [l_alloc_Count_1_0, M_loop, ← l_alloc_Count_1_0]
  simp [b_alloc_Count_1_0, h3, h6, h7, h8, hlt']
  simp only [cnt, Nat.add_zero] at hc
  exact he _ (by simp [h3, hc])
 | cons b r ih =>
  intro j c φ hd hc h3 h6 h7 h8
  have hj : j < L.length := by
   have : (L.drop j).length = r.length + 1 := by rw [hd]; rfl
   rw [List.length_drop] at this; omega
  have hlt : (j : Int) < L.length := by omega
  have hLx : L[j]? = some b := by rw [← List.head?_drop, hd]; rfl
  have hd1 : L.drop (j + 1) = r := by rw [← List.tail_drop, hd]; rfl
  have hg : ∀ h, L[j]'h = b := fun h => by rw [List.getElem?_eq_getElem h] at hLx; exact Option.some.inj hLx
  have hw : IntKind.i64.wrap ((j : Int) + 1) = ((j + 1 : Nat) : Int) := by rw [w64 (by omega) (by omega)]; rfl
  have hwc : IntKind.i64.wrap ((c : Int) + 1) = ((c + 1 : Nat) : Int) := by rw [w64 (by omega) (by omega)]; rfl
  rw [l_alloc_Count_1_0, M_loop, ← l_alloc_Count_1_0]
  cases b with
  | false =>
   simp [b_alloc_Count_1_0, h3, h6, h7, h8, hlt, hj, hg, hw]
   refine ih (j + 1) c _ hd1 (by simpa [cnt] using hc) ?_ ?_ ?_ ?_
   all_goals simp [h3, h6, h7]
  | true =>
   simp [b_alloc_Count_1_0, h3, h6, h7, h8, hlt, hj, hg, hw, hwc]
   refine ih (j + 1) (c + 1) _ hd1 (by simp [cnt] at hc; omega) ?_ ?_ ?_ ?_
   all_goals simp [h3, h6, h7]
theorem cnt_sl (L : List Bool) (hL : L.length ≤ 1000) (H : Heap) : eval tbl noExt n_alloc_Count_1 [.sl 1 (br L)] H = some (iw (cnt L), H) := by
 rw [eval_M rfl rfl t_alloc_Count_1 rfl]
 simp [c_alloc_Count_1]
 refine cnt_loop_sl L hL H _ (fun x => x = some (iw (cnt L), H)) ?_ L 0 0 _ rfl (by omega) ?_ ?_ ?_ ?_
 ·intro φ h3
  simp [r_alloc_Count_1_0, h3]
 all_goals simp
theorem cnt_loop_ms (L : List Bool) (hL : L.length ≤ 1000) (H : Heap) (i : Nat) (hH : H[i]? = some (some (bl L))) (k : List Item) (Q : Option (V × Heap) → Prop) (he : ∀ φ, Fr.get φ 3 = iw (cnt L) → Q (M (eval tbl noExt) k φ H)) :
  ∀ (r : List Bool) (j c : Nat) (φ : Fr), L.drop j = r → c + cnt r = cnt L → Fr.get φ 3 = iw c → Fr.get φ 6 = .ms i 0 L.length L.length → Fr.get φ 7 = iw L.length → Fr.get φ 8 = iw j → Q (M (eval tbl noExt) (.code l_alloc_Count_1_0 :: .blk 0 :: k) φ H) := by
 have hcl := cnt_le L
 have hH3 : ∀ h, H[i]'h = some (bl L) := fun h => by rw [List.getElem?_eq_getElem h] at hH; exact Option.some.inj hH
 intro r
 induction r with
 | nil =>
  intro j c φ hd hc h3 h6 h7 h8
  have hj : L.length ≤ j := by rw [← Nat.sub_eq_zero_iff_le, ← List.length_drop, hd]; rfl
  have hlt : ¬ ((j : Int) < L.length) := by omega
  have hlt' : ¬ (j < L.length) := by omega
  rw [l_alloc_Count_1_0, M_loop, ← l_alloc_Count_1_0]
  simp [b_alloc_Count_1_0, h3, h6, h7, h8, hlt']
  simp only [cnt, Nat.add_zero] at hc
  exact he _ (by simp [h3, hc])
 | cons b r ih =>
  intro j c φ hd hc h3 h6 h7 h8
  have hj : j < L.length := by
   have : (L.drop j).length = r.length + 1 := by rw [hd]; rfl
   rw [List.length_drop] at this; omega
  have hlt : (j : Int) < L.length := by omega
  have hLx : L[j]? = some b := by rw [← List.head?_drop, hd]; rfl
  have hd1 : L.drop (j + 1) = r := by rw [← List.tail_drop, hd]; rfl
  have hT := bl_get L j
  rw [hLx] at hT
  simp only [Option.map_some] at hT
  have hw : IntKind.i64.wrap ((j : Int) + 1) = ((j + 1 : Nat) : Int) := by rw [w64 (by omega) (by omega)]; rfl
  have hwc : IntKind.i64.wrap ((c : Int) + 1) = ((c + 1 : Nat) : Int) := by rw [w64 (by omega) (by omega)]; rfl
  rw [l_alloc_Count_1_0, M_loop, ← l_alloc_Count_1_0]
  cases b with
  | false =>
   simp [b_alloc_Count_1_0, h3, h6, h7, h8, hlt, hj, hH, hH3, hT, hw]
   refine ih (j + 1) c _ hd1 (by simpa [cnt] using hc) ?_ ?_ ?_ ?_
   all_goals simp [h3, h6, h7]
  | true =>
   simp [b_alloc_Count_1_0, h3, h6, h7, h8, hlt, hj, hH, hH3, hT, hw, hwc]
   refine ih (j + 1) (c + 1) _ hd1 (by simp [cnt] at hc; omega) ?_ ?_ ?_ ?_
   all_goals simp [h3, h6, h7]
theorem cnt_ms (L : List Bool) (hL : L.length ≤ 1000) (H : Heap) (i : Nat) (hH : H[i]? = some (some (bl L))) : eval tbl noExt n_alloc_Count_1 [.ms i 0 L.length L.length] H = some (iw (cnt L), H) := by
 rw [eval_M rfl rfl t_alloc_Count_1 rfl]
 simp [c_alloc_Count_1]
 refine cnt_loop_ms L hL H i hH _ (fun x => x = some (iw (cnt L), H)) ?_ L 0 0 _ rfl (by omega) ?_ ?_ ?_ ?_
 ·intro φ h3
  simp [r_alloc_Count_1_0, h3]
 all_goals simp
theorem bl_chunk : ∀ (L A : List Bool), chunk 1 (bl (A ++ L)) A.length L.length = br L
 | [], A => rfl
 | b :: L, A => by
  have h := bl_chunk L (A ++ [b])
  simp only [List.length_append, List.length_cons, List.length_nil, List.append_assoc, List.cons_append, List.nil_append] at h
  simp only [List.length_cons, chunk, List.map_cons, Nat.zero_add] at h ⊢
  rw [h]
  congr 1
  have : (bl (A ++ b :: L)).drop A.length = bl (b :: L) := by
   unfold bl
   rw [← List.map_drop, List.drop_left]
  rw [this]; rfl
theorem cloneB_eq {H : Heap} {i n : Nat} {L : List Bool} (hH : H[i]? = some (some (bl L))) (hL : L.length = n) (h0 : 0 < n) (h1 : n ≤ 1000) : eval tbl noExt n_slices_Clone_bool_bool [.ms i 0 n n] H = some (.own 1 (br L), H) := by
 have hH3 : ∀ h, H[i]'h = some (bl L) := fun h => by rw [List.getElem?_eq_getElem h] at hH; exact Option.some.inj hH
 have hl := bl_len L
 have h2 := bl_strip L
 have h3 := bl_chunk L []
 simp only [List.nil_append, List.length_nil, hL] at h3
 have h4 : ¬ n = 0 := by omega
 have h5 : 2 * n ≤ 281474976710656 := by omega
 have h6 : ((br L).all fun r => r.all V.plain) = true := by
  rw [List.all_eq_true]
  intro r hr
  obtain ⟨b, _, rfl⟩ := List.mem_map.1 hr
  rfl
 have h7 : (br L).length = n := by simp [hL]
 rw [eval_M rfl rfl t_slices_Clone_bool_bool rfl]
 generalize br L = R at *
 simp [-List.all_eq_true, c_slices_Clone_bool_bool, hH, hH3, hl, hL, h2, h3, h4, h5, h6, h7]
noncomputable def entL (m : List (List UInt8)) : Nat → List Bool
 | 0 => List.replicate 24 false
 | j + 1 => (entL m j).set j (usedK m j)
theorem entL_len (m : List (List UInt8)) : ∀ j, (entL m j).length = 24
 | 0 => rfl
 | j + 1 => by simp [entL, entL_len m j]
theorem count_loop {K : Heap} {v : V} {m : List (List UInt8)} (h : Has K v m) (Y Z : List V) (k : List Item) (Q : Option (V × Heap) → Prop) (t5 : V)
  (he : ∀ φ, Fr.get φ 5 = t5 → Fr.get φ 6 = .ptr K.length 0 → Fr.get φ 7 = .ptr (K.length + 1) 0 → Fr.get φ 8 = .ms (K.length + 2) 0 24 24 → Q (M (eval tbl noExt) k φ (K ++ [some Y, some Z, some (bl (entL m 24))]))) :
  ∀ (r j : Nat) (φ : Fr), j + r = 24 → Fr.get φ 0 = v → Fr.get φ 5 = t5 → Fr.get φ 6 = .ptr K.length 0 → Fr.get φ 7 = .ptr (K.length + 1) 0 → Fr.get φ 8 = .ms (K.length + 2) 0 24 24 → Fr.get φ 16 = iw 24 → Fr.get φ 17 = iw j →
   Q (M (eval tbl noExt) (.code l_alloc_Count_0 :: .blk 0 :: k) φ (K ++ [some Y, some Z, some (bl (entL m j))])) := by
 have h2 := h.two
 intro r
 induction r with
 | zero =>
  intro j φ hj h0 h5 h6 h7 h8 h16 h17
  obtain rfl : j = 24 := by omega
  rw [l_alloc_Count_0, M_loop, ← l_alloc_Count_0]
  simp [b_alloc_Count_0, h0, h5, h6, h7, h8, h16, h17]
  refine he _ ?_ ?_ ?_ ?_
  all_goals simp [h5, h6, h7, h8]
 | succ r ih =>
  intro j φ hj h0 h5 h6 h7 h8 h16 h17
  have hlt : (j : Int) < 24 := by omega
  have hlt' : j < 24 := by omega
  have hE := fun L => lookEntry_eq (h.more L) j hlt'
  have hw : IntKind.i64.wrap ((j : Int) + 1) = ((j + 1 : Nat) : Int) := by rw [w64 (by omega) (by omega)]; rfl
  have hc : (ent m j).cells = [.bool (ent m j).used, iw (ent m j).parent, .str (ent m j).name, iw (ent m j).target] := rfl
  have hl := (bl_len _).trans (entL_len m j)
  have e : (entL m j).set j (ent m j).used = entL m (j + 1) := rfl
  have hle : j ≤ 23 := by omega
  obtain ⟨u, hu⟩ : ∃ u, u = v := ⟨_, rfl⟩
  rw [l_alloc_Count_0, M_loop, ← l_alloc_Count_0]
  rcases h2 with rfl | ⟨rfl, hp⟩ <;>
  ·simp [b_alloc_Count_0, h0, h5, h6, h7, h8, h16, h17, hlt, hlt', hle, hE, hc, hw, gk, sk, hl, bl_set, e]
   refine ih (j + 1) _ (by omega) ?_ ?_ ?_ ?_ ?_ ?_ ?_
   all_goals simp [h0, h5, h6, h7, h8, h16]
theorem Count_eq2 {K : Heap} {v : V} {m : List (List UInt8)} (h : Has K v m) : eval tbl noExt n_alloc_Count [v] K = some (.tup [iw (cnt (inL m 24)), iw (cnt (entL m 24)), iw (cnt (blkL m 16))], K) := by
 have hI := inodes_eq h
 have hB := blocks_eq h
 have l1 := (bl_len _).trans (inL_len m 24)
 have l2 := (bl_len _).trans (blkL_len m 16)
 have p1 := bl_one (inL m 24)
 have p2 := bl_one (blkL m 16)
 have u1 := fun n => bl_under n (inL m 24)
 have u2 := fun n => bl_under n (blkL m 16)
 have e1 : [V.bool false, V.bool false, V.bool false, V.bool false, V.bool false, V.bool false, V.bool false, V.bool false, V.bool false, V.bool false, V.bool false, V.bool false, V.bool false, V.bool false, V.bool false, V.bool false] = bl (List.replicate 16 false) := rfl
 have e2 : [V.bool false, V.bool false, V.bool false, V.bool false, V.bool false, V.bool false, V.bool false, V.bool false, V.bool false, V.bool false, V.bool false, V.bool false, V.bool false, V.bool false, V.bool false, V.bool false, V.bool false, V.bool false, V.bool false, V.bool false, V.bool false, V.bool false, V.bool false, V.bool false, V.bool false] = bl (blkL m 0) := rfl
 have s1 : setMany (bl (List.replicate 16 false)) 0 (bl (inL m 24)) = bl (inL m 24) := bl_put _ _ (by rw [bl_len, inL_len]; rfl)
 have s2 : setMany (bl (blkL m 0)) 0 (bl (blkL m 16)) = bl (blkL m 16) := bl_put _ _ (by rw [bl_len, blkL_len, blkL_len])
 rw [← e1] at s1
 rw [← e2] at s2
 have e3 : List.replicate 24 (V.bool false) = bl (entL m 0) := rfl
 have C1 := cloneB_eq (H := K ++ [some (bl (inL m 24)), some (bl (blkL m 16)), some (bl (entL m 24))]) (i := K.length) (n := 16) (by rw [gk0]; rfl) (inL_len m 24) (by omega) (by omega)
 have C2 := cloneB_eq (H := K ++ [some (bl (inL m 24)), some (bl (blkL m 16)), some (bl (entL m 24))]) (i := K.length + 1) (n := 25) (by rw [gk]; rfl) (blkL_len m 16) (by omega) (by omega)
 have c1 := cnt_sl (inL m 24) (by rw [inL_len]; omega) []
 have c2 := cnt_sl (blkL m 16) (by rw [blkL_len]; omega) []
 have c3 := cnt_ms (entL m 24) (by rw [entL_len]; omega) (K ++ [some (bl (inL m 24)), some (bl (blkL m 16)), some (bl (entL m 24))]) (K.length + 2) (by rw [gk]; rfl)
 rw [entL_len] at c3
 have hloop := fun Y Z k Q t5 he φ h0 h5 h6 h7 h8 h16 h17 => count_loop h Y Z k Q t5 he 24 0 φ rfl h0 h5 h6 h7 h8 h16 h17
 have h2 := h.two
 rw [eval_M rfl rfl t_alloc_Count rfl]
 rcases h2 with rfl | ⟨rfl, hp⟩ <;>
 ·simp [-List.all_eq_true, -List.reduceReplicate, c_alloc_Count, hI, hB, gk, gk0, sk, sk0, l1, l2, p1, p2, u1, u2, s1, s2]
  rw [e3]
  refine hloop _ _ _ (fun x => x = some (.tup [iw (cnt (inL m 24)), iw (cnt (entL m 24)), iw (cnt (blkL m 16))], K)) (.fn (.func n_alloc_Count_1) [] []) ?_ _ ?_ ?_ ?_ ?_ ?_ ?_ ?_
  ·intro φ h5 h6 h7 h8
   simp [-List.all_eq_true, r_alloc_Count_0, h5, h6, h7, h8, gk, gk0, sk, sk0, tk0, C1, C2, c1, c2, c3]
  all_goals simp
end Go.AM.Spec
