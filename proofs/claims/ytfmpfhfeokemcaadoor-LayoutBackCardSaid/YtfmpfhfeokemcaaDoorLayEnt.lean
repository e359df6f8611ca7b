/-
  The parts of this proof that speak of the functions one by one.
-/
import Derived.Test.YtfmpfhfeokemcaaDoorLayB
namespace Go.AM.Spec
set_option linter.unusedVariables false
set_option linter.unusedSimpArgs false
set_option maxHeartbeats 4000000
set_option maxRecDepth 20000

/-- What Entry answers. -/
def En.out (x : En) : List V := if x.right = true then x.sec else zeroSec

theorem right_used {x : En} (h : x.right = true) (hu : x.used = true) : 0 ≤ x.parent ∧ x.parent < 16 ∧ 1 ≤ x.target ∧ x.target < 16 ∧ x.name.length ≤ 8 := by
  unfold En.right at h
  rw [if_pos hu] at h
  simp only [Bool.and_eq_true, decide_eq_true_eq] at h
  have hn := h.2.2
  unfold nameOK at hn
  simp only [Bool.and_eq_true, decide_eq_true_eq] at hn
  exact ⟨h.1.1, h.1.2, h.2.1.1, h.2.1.2, hn.2.1⟩

theorem byrows_flat (s : List UInt8) : (bytesRows s).flatten = bys s := by
  unfold bytesRows bys
  induction s with
  | nil => rfl
  | cons c s ih => simp only [List.map_cons, List.flatten_cons, ih]; rfl
theorem byrows_take (s : List UInt8) (h : s.length ≤ 16) : ((bytesRows s).take (min s.length 16)).flatten = bys s := by
  rw [List.take_of_length_le (by simp [bytesRows]; omega), byrows_flat]
theorem byrows_plain (s : List UInt8) (n : Nat) : (((bytesRows s).take n).all fun r => r.all V.plain) = true := by
  rw [List.all_eq_true]
  intro r hr
  have := List.mem_of_mem_take hr
  unfold bytesRows at this
  obtain ⟨c, _, rfl⟩ := List.mem_map.1 this
  rfl

theorem sec_many_lit (p t m : Int) (s : List UInt8) (h : s.length ≤ 16) : setMany [u8 1, u8 p, u8 t, u8 m, u8 0, u8 0, u8 0, u8 0, u8 0, u8 0, u8 0, u8 0, u8 0, u8 0, u8 0, u8 0, u8 0, u8 0, u8 0, u8 0, u8 0, u8 0, u8 0, u8 0, u8 0, u8 0, u8 0, u8 0, u8 0, u8 0, u8 0, u8 0] 16 (bys s) = secAt 1 p t m s s.length := sec_many 1 p t m s h

theorem Entry_eq (x : En) (hx : x.name.length ≤ 1000) (H : Heap) : eval tbl noExt n_layout_Entry [.agg x.cells] H = some (.tup [.agg x.out, .bool x.right], H) := by
  have hR := RightEntry_eq x hx []
  rw [eval_M rfl rfl t_layout_Entry rfl]
  unfold En.out
  cases hr : x.right with
  | false =>
    rw [hr] at hR
    simp only [En.cells] at hR ⊢
    simp [c_layout_Entry, hR, zeroSec, List.replicate]
  | true =>
    rw [hr] at hR
    cases hu : x.used with
    | false =>
      have hs : x.sec = zeroSec := by unfold En.sec; rw [if_neg (by simp [hu])]
      rw [if_pos rfl, hs]
      simp only [En.cells, hu] at hR ⊢
      simp [c_layout_Entry, hR, zeroSec, List.replicate]
    | true =>
      obtain ⟨r1, r2, r3, r4, r5⟩ := right_used hr hu
      have hs : x.sec = secAt 1 x.parent x.target x.name.length x.name x.name.length := by unfold En.sec; rw [if_pos hu]
      have e1 : IntKind.u8.wrap x.parent = x.parent := by rw [IntKind.wrap_u8]; omega
      have e2 : IntKind.u8.wrap x.target = x.target := by rw [IntKind.wrap_u8]; omega
      have e3 : IntKind.u8.wrap (x.name.length : Int) = x.name.length := by rw [IntKind.wrap_u8]; omega
      have e4 := byrows_take x.name (by omega)
      have e5 := fun n => byrows_plain x.name n
      have e6 := sec_many_lit x.parent x.target x.name.length x.name (by omega)
      have e7 : (bytesRows x.name).length = x.name.length := by simp [bytesRows]
      rw [if_pos rfl, hs]
      simp only [En.cells, hu] at hR ⊢
      have ok := secAt_ok 1 x.parent x.target x.name.length x.name (Nat.le_refl _) (show x.name.length ≤ 16 by omega)
      simp [c_layout_Entry, hR, e1, e2, e3, e4, e5, e6, e7, ok.len, ok.take, ok.strip, ok.one, ok.under, h32 ok]

end Go.AM.Spec

namespace Go.AM.Spec
set_option linter.unusedVariables false
set_option linter.unusedSimpArgs false
set_option maxHeartbeats 4000000
set_option maxRecDepth 20000

theorem refEntry_loop (x : En) (hx : x.name.length ≤ 16) (H : Heap) (z : Option (List V)) (call : CallF) (Q : Option (V × Heap) → Prop) (k : List Item)
    (hexit : ∀ φ', Fr.get φ' 1 = .ptr H.length 0 → Fr.get φ' 2 = .ptr (H.length + 1) 0 → Fr.get φ' 4 = .ptr (H.length + 2) 0 → Q (M call k φ' (H ++ [some x.cells, z, some (secAt 1 x.parent x.target x.name.length x.name x.name.length)]))) :
    ∀ (j i : Nat) (φ : Fr), i + j = x.name.length → Fr.get φ 1 = .ptr H.length 0 → Fr.get φ 2 = .ptr (H.length + 1) 0 → Fr.get φ 4 = .ptr (H.length + 2) 0 → Fr.get φ 5 = iw i →
      Q (M call (.code l_flotsamref07_Entry_0 :: .blk 0 :: k) φ (H ++ [some x.cells, z, some (secAt 1 x.parent x.target x.name.length x.name i)])) := by
  have hc : x.cells = [.bool x.used, iw x.parent, .str x.name, iw x.target] := rfl
  intro j
  induction j with
  | zero =>
    intro i φ hi h1 h2 h4 h5
    obtain rfl : i = x.name.length := by omega
    rw [l_flotsamref07_Entry_0, M_loop]
    simp [b_flotsamref07_Entry_0, h1, h2, h4, h5, hc]
    exact hexit _ (by simp [h1]) (by simp [h2]) (by simp [h4])
  | succ j ih =>
    intro i φ hi h1 h2 h4 h5
    have hlt : i < x.name.length := by omega
    obtain ⟨c, hcc⟩ : ∃ c, c = x.name[i] := ⟨_, rfl⟩
    have hc' : x.name[i]? = some c := by rw [hcc]; exact List.getElem?_eq_getElem hlt
    have hg : ∀ h : i < x.name.length, x.name[i] = c := fun h => hcc.symm
    have e1 : (i : Int) < x.name.length := by omega
    have e2 : IntKind.i64.wrap ((i : Int) + 1) = ((i + 1 : Nat) : Int) := by rw [w64] <;> omega
    obtain ⟨m, hm⟩ : ∃ m, m = 16 + i := ⟨_, rfl⟩
    have e3 : IntKind.i64.wrap (16 + (i : Int)) = (m : Int) := by rw [w64] <;> omega
    have e4 : (m : Int) < 32 := by omega
    have e4' : m < 32 := by omega
    have e5 : m + 1 ≤ 32 := by omega
    have hs := sec_set 1 x.parent x.target x.name.length x.name hlt (by omega)
    rw [← hcc, ← hm] at hs
    have hl := secAt_len 1 x.parent x.target x.name.length x.name (i := i) (by omega) (by omega)
    rw [l_flotsamref07_Entry_0, M_loop, ← l_flotsamref07_Entry_0]
    simp [b_flotsamref07_Entry_0, h1, h2, h4, h5, hc, hc', hlt, hg, e1, e2, e3, e4, e4', e5, hl, hs]
    refine ih (i + 1) _ (by omega) ?_ ?_ ?_ ?_ <;> simp [h1, h2, h4]

theorem refEntry_eq (x : En) (hx : x.name.length ≤ 1000) (H : Heap) : eval tbl noExt n_flotsamref07_Entry [.agg x.cells] H = some (.tup [.agg x.out, .bool x.right], H) := by
  have hR := refRightEntry_eq x hx []
  rw [eval_M rfl rfl t_flotsamref07_Entry rfl]
  unfold En.out
  cases hr : x.right with
  | false =>
    rw [hr] at hR
    simp only [En.cells] at hR ⊢
    simp [c_flotsamref07_Entry, hR, zeroSec, List.replicate]
  | true =>
    rw [hr] at hR
    cases hu : x.used with
    | false =>
      have hs : x.sec = zeroSec := by unfold En.sec; rw [if_neg (by simp [hu])]
      rw [if_pos rfl, hs]
      simp only [En.cells, hu] at hR ⊢
      simp [c_flotsamref07_Entry, hR, zeroSec, List.replicate]
    | true =>
      obtain ⟨r1, r2, r3, r4, r5⟩ := right_used hr hu
      have hs : x.sec = secAt 1 x.parent x.target x.name.length x.name x.name.length := by unfold En.sec; rw [if_pos hu]
      have e1 : IntKind.u8.wrap x.parent = x.parent := by rw [IntKind.wrap_u8]; omega
      have e2 : IntKind.u8.wrap x.target = x.target := by rw [IntKind.wrap_u8]; omega
      have e3 : IntKind.u8.wrap (x.name.length : Int) = x.name.length := by rw [IntKind.wrap_u8]; omega
      have ok := secAt_ok 1 x.parent x.target x.name.length x.name (Nat.le_refl _) (show x.name.length ≤ 16 by omega)
      rw [if_pos rfl, hs]
      have hc : x.cells = [.bool true, iw x.parent, .str x.name, iw x.target] := by unfold En.cells; rw [hu]
      rw [hc] at hR ⊢
      simp [c_flotsamref07_Entry, hR, e1, e2, e3]
      have key := refEntry_loop x (by omega) H (some zeroSec) (eval tbl noExt) (fun r => r = some (.tup [.agg (secAt 1 x.parent x.target x.name.length x.name x.name.length), .bool true], H))
      rw [hc] at key
      refine key _ ?_ x.name.length 0 _ (by omega) ?_ ?_ ?_ ?_
      · intro φ' h1 h2 h4
        simp [r_flotsamref07_Entry_0, h1, h2, h4, zeroSec, List.replicate, ok.len, ok.take, ok.strip, ok.one, ok.under, h32 ok]
      all_goals simp

/-! What stands in a sector. -/
theorem bys_ok {l : List UInt8} (h : l.length = 32) : SecOK (bys l) := ⟨⟨l.map fun c => (c.toNat : Int), by unfold secOf bys; rw [List.map_map]; rfl, by simpa using h⟩⟩

theorem bys_get {l : List UInt8} {i : Nat} {c : UInt8} (h : l[i]? = some c) : (bys l)[i]? = some (u8 c.toNat) := by
  unfold bys
  rw [List.getElem?_map, h]; rfl

theorem chunk_bys : ∀ (n : Nat) (l : List UInt8) (off : Nat), off + n ≤ l.length → chunk 1 (bys l) off n = bytesRows ((l.drop off).take n)
  | 0, l, off, _ => by simp [chunk, bytesRows]
  | n + 1, l, off, h => by
    rw [chunk, chunk_bys n l (off + 1) (by omega)]
    have hlt : off < l.length := by omega
    rw [List.drop_eq_getElem_cons hlt, List.take_succ_cons]
    unfold bytesRows bys
    rw [List.map_cons, ← List.map_drop, ← List.map_take, List.drop_eq_getElem_cons hlt]
    rfl

theorem rowsBytes_of : ∀ s : List UInt8, rowsBytes (bytesRows s) = some s
  | [] => rfl
  | c :: s => by
    have ih := rowsBytes_of s
    have hb : c.toNat < 256 := UInt8.toNat_lt c
    unfold bytesRows at ih ⊢
    rw [List.map_cons]
    unfold rowsBytes
    rw [if_pos (by omega), ih]
    simp

end Go.AM.Spec

namespace Go.AM.Spec
set_option linter.unusedVariables false
set_option linter.unusedSimpArgs false
set_option maxHeartbeats 4000000
set_option maxRecDepth 20000

/-- Bytes of a sector's second half. -/
def cutOf (l : List UInt8) (n : Nat) : List UInt8 := if n ≤ 16 then (l.drop 16).take n else []

theorem bys_strip (l : List UInt8) : (bys l).map V.strip = bys l := by
  unfold bys; rw [List.map_map]; rfl
theorem rows_all_plain (s : List UInt8) : ((bytesRows s).all fun r => r.all V.plain) = true := by
  rw [List.all_eq_true]
  intro r hr
  unfold bytesRows at hr
  obtain ⟨c, _, rfl⟩ := List.mem_map.1 hr
  rfl
theorem rows_len (s : List UInt8) : (bytesRows s).length = s.length := by simp [bytesRows]
theorem bys_len (l : List UInt8) : (bys l).length = l.length := by simp [bys]

theorem rowsOf_half (H : Heap) (l : List UInt8) (hl : l.length = 32) (n : Nat) (hn : n ≤ 16) : rowsOf (H ++ [some (bys l)]) 1 (.ms H.length 16 n 16) = some (bytesRows (cutOf l n)) := by
  have e : (H ++ [some (bys l)])[H.length]? = some (some (bys l)) := by
    rw [List.getElem?_append_right (Nat.le_refl _), Nat.sub_self]; rfl
  unfold rowsOf
  simp only [e]
  rw [if_pos (by rw [bys_len]; omega), bys_strip, chunk_bys n l 16 (by omega), cutOf, if_pos hn]

theorem Clone_eq (H : Heap) (l : List UInt8) (hl : l.length = 32) (n : Nat) (hn : n ≤ 16) :
    eval tbl noExt n_bytes_Clone [.ms H.length 16 n 16] (H ++ [some (bys l)]) = some (.own 1 (bytesRows (cutOf l n)), H ++ [some (bys l)]) := by
  have h1 := rowsOf_half H l hl n hn
  have h2 := rows_all_plain (cutOf l n)
  have h3 := rows_len (cutOf l n)
  have h4 : (cutOf l n).length ≤ 16 := by unfold cutOf; rw [if_pos hn, List.length_take]; omega
  have h5 : 2 * (0 + (bytesRows (cutOf l n)).length) * 1 ≤ 2 ^ 48 := by rw [h3]; omega
  have g1 : 16 + n ≤ (bys l).length := by rw [bys_len]; omega
  have g2 : chunk 1 (List.map V.strip (bys l)) 16 n = bytesRows (cutOf l n) := by rw [bys_strip, chunk_bys n l 16 (by omega), cutOf, if_pos hn]
  have g3 : 2 * (cutOf l n).length ≤ 281474976710656 := by omega
  rw [eval_M rfl rfl t_bytes_Clone rfl]
  simp [c_bytes_Clone, g1, g2, g3, h2, h3, List.take_of_length_le]

theorem fits_eq (n : Nat) (H : Heap) : eval tbl noExt n_sector_fits [iw 16, iw n] H = some (.bool (decide (n ≤ 16)), H) := by
  have e1 : IntKind.i64.wrap 16 = 16 := rfl
  rw [eval_M rfl rfl t_sector_fits rfl]
  by_cases h : n ≤ 16
  · have h' : (n : Int) ≤ 16 := by omega
    simp [c_sector_fits, h, h', e1]
  · have h' : ¬ (n : Int) ≤ 16 := by omega
    have h'' : (16 : Int) < n := by omega
    simp [c_sector_fits, h, h', h'', e1]

theorem Cut_eq (l : List UInt8) (hl : l.length = 32) (n : Nat) (hn : n < 256) (H : Heap) :
    eval tbl noExt n_sector_Cut [.agg (bys l), iw 16, iw n] H = some (.own 1 (bytesRows (cutOf l n)), H) := by
  have hC := Clone_eq H l hl n
  have e1 : IntKind.i64.wrap (32 - 16) = 16 := rfl
  have ok := bys_ok hl
  have hf := fits_eq n []
  rw [eval_M rfl rfl t_sector_Cut rfl]
  by_cases h : n ≤ 16
  · have hC := hC h
    obtain ⟨m, hm⟩ : ∃ m, m = 16 + n := ⟨_, rfl⟩
    have e2 : IntKind.i64.wrap (16 + (n : Int)) = (m : Int) := by rw [w64] <;> omega
    have e3 : (m : Int) ≤ 32 := by omega
    have e4 : (16 : Int) ≤ m := by omega
    have e5 : m - 16 = n := by omega
    simp [c_sector_Cut, h, hC, hf, e2, e3, e4, e5]
  · simp [c_sector_Cut, h, hf, cutOf, bytesRows]

open Classical in
theorem Zero_eq (l : List UInt8) (hl : l.length = 32) (H : Heap) : eval tbl noExt n_sector_Zero [.agg (bys l)] H = some (.bool (decide (bys l = zeroSec)), H) := by
  have ok := bys_ok hl
  have he := ok.eqc zeroSec_ok
  have hz : [u8 0, u8 0, u8 0, u8 0, u8 0, u8 0, u8 0, u8 0, u8 0, u8 0, u8 0, u8 0, u8 0, u8 0, u8 0, u8 0, u8 0, u8 0, u8 0, u8 0, u8 0, u8 0, u8 0, u8 0, u8 0, u8 0, u8 0, u8 0, u8 0, u8 0, u8 0, u8 0] = zeroSec := rfl
  rw [eval_M rfl rfl t_sector_Zero rfl]
  simp [c_sector_Zero, ok.len, ok.take, ok.strip, ok.one, ok.under, hz, he]

theorem get_of {α : Type} {l : List α} {i : Nat} {c : α} (h : l[i]? = some c) : ∀ h : i < l.length, l[i] = c := fun hi => by
  rw [List.getElem?_eq_getElem hi] at h; exact Option.some.inj h

/-- An entry, of a sector. -/
def entIn (l : List UInt8) : En := ⟨true, (l.getD 1 0).toNat, cutOf l (l.getD 3 0).toNat, (l.getD 2 0).toNat⟩
open Classical in
noncomputable def entOf (l : List UInt8) : En × Bool :=
  if bys l = zeroSec then (zeroEn, true)
  else if (entIn l).right = true ∧ bys l = (entIn l).sec then (entIn l, true) else (zeroEn, false)

theorem cut_len (l : List UInt8) (n : Nat) : (cutOf l n).length ≤ 16 := by
  unfold cutOf
  split
  · rw [List.length_take]; omega
  · simp

open Classical in
theorem EntryOf_eq (l : List UInt8) (hl : l.length = 32) (H : Heap) : eval tbl noExt n_layout_EntryOf [.agg (bys l)] H = some (.tup [.agg (entOf l).1.cells, .bool (entOf l).2], H) := by
  have ok := bys_ok hl
  have hZ := Zero_eq l hl []
  have g1 : (bys l)[1]? = some (u8 (l.getD 1 0).toNat) := by apply bys_get; rw [List.getD_eq_getElem?_getD, List.getElem?_eq_getElem (by omega)]; rfl
  have g2 : (bys l)[2]? = some (u8 (l.getD 2 0).toNat) := by apply bys_get; rw [List.getD_eq_getElem?_getD, List.getElem?_eq_getElem (by omega)]; rfl
  have g3 : (bys l)[3]? = some (u8 (l.getD 3 0).toNat) := by apply bys_get; rw [List.getD_eq_getElem?_getD, List.getElem?_eq_getElem (by omega)]; rfl
  have b1 := UInt8.toNat_lt (l.getD 1 0)
  have b2 := UInt8.toNat_lt (l.getD 2 0)
  have b3 := UInt8.toNat_lt (l.getD 3 0)
  have hC := Cut_eq l hl (l.getD 3 0).toNat (by simpa using b3) []
  have hE := Entry_eq (entIn l) (by unfold entIn; exact Nat.le_trans (cut_len _ _) (by omega)) []
  have hc : (entIn l).cells = [.bool true, iw (l.getD 1 0).toNat, .str (cutOf l (l.getD 3 0).toNat), iw (l.getD 2 0).toNat] := rfl
  obtain ⟨p1, hp1⟩ : ∃ x, x = (l.getD 1 0).toNat := ⟨_, rfl⟩
  obtain ⟨p2, hp2⟩ : ∃ x, x = (l.getD 2 0).toNat := ⟨_, rfl⟩
  obtain ⟨p3, hp3⟩ : ∃ x, x = (l.getD 3 0).toNat := ⟨_, rfl⟩
  rw [← hp1] at g1 b1 hc
  rw [← hp2] at g2 b2 hc
  rw [← hp3] at g3 b3 hc hC
  have k1 := get_of g1
  have k2 := get_of g2
  have k3 := get_of g3
  have w1 : IntKind.i64.wrap (p1 : Int) = p1 := by rw [w64] <;> omega
  have w2 : IntKind.i64.wrap (p2 : Int) = p2 := by rw [w64] <;> omega
  have w3 : IntKind.i64.wrap (p3 : Int) = p3 := by rw [w64] <;> omega
  have hr := rowsBytes_of (cutOf l p3)
  rw [eval_M rfl rfl t_layout_EntryOf rfl]
  unfold entOf
  by_cases hz : bys l = zeroSec
  · rw [if_pos hz]
    rw [decide_eq_true hz] at hZ
    simp [c_layout_EntryOf, ok.len, ok.take, ok.strip, ok.one, ok.under, hZ, zeroEn, En.cells]
  · rw [if_neg hz]
    rw [decide_eq_false hz] at hZ
    cases hg : (entIn l).right with
    | false =>
      rw [if_neg (by simp)]
      have ho : (entIn l).out = zeroSec := by unfold En.out; rw [if_neg (by simp [hg])]
      have oz := zeroSec_ok
      rw [hc, hg, ho] at hE
      simp [c_layout_EntryOf, ok.len, ok.take, ok.strip, ok.one, ok.under, oz.len, oz.take, oz.strip, oz.one, oz.under, h32 oz, hZ, zeroEn, En.cells, g1, g2, g3, k1, k2, k3, w1, w2, w3, hC, hr, hE]
    | true =>
      have ho : (entIn l).out = (entIn l).sec := by unfold En.out; rw [if_pos hg]
      obtain ⟨r1, r2, r3, r4, r5⟩ := right_used hg rfl
      have os : SecOK (entIn l).sec := by unfold En.sec; rw [if_pos (show (entIn l).used = true from rfl)]; exact secAt_ok _ _ _ _ _ (Nat.le_refl _) (by omega)
      have he := ok.eqc os
      rw [hc, hg, ho] at hE
      by_cases hq : bys l = (entIn l).sec
      · rw [decide_eq_true hq] at he
        rw [if_pos ⟨rfl, hq⟩, hc]
        simp [c_layout_EntryOf, ok.len, ok.take, ok.strip, ok.one, ok.under, os.len, os.take, os.strip, os.one, os.under, h32 os, hZ, g1, g2, g3, k1, k2, k3, w1, w2, w3, hC, hr, hE, he]
      · rw [decide_eq_false hq] at he
        rw [if_neg (fun h => hq h.2)]
        simp [c_layout_EntryOf, ok.len, ok.take, ok.strip, ok.one, ok.under, os.len, os.take, os.strip, os.one, os.under, h32 os, hZ, g1, g2, g3, k1, k2, k3, w1, w2, w3, hC, hr, hE, he, zeroEn, En.cells]

end Go.AM.Spec

namespace Go.AM.Spec
set_option linter.unusedVariables false
set_option linter.unusedSimpArgs false
set_option maxHeartbeats 4000000
set_option maxRecDepth 20000

theorem sec_get0 (x : En) (hu : x.used = true) : x.sec[0]? = some (u8 1) := by
  unfold En.sec; rw [if_pos hu]; rfl
theorem sec_get3 (x : En) (hu : x.used = true) : x.sec[3]? = some (u8 x.name.length) := by
  unfold En.sec; rw [if_pos hu]; rfl
theorem zero_right : zeroEn.right = true := rfl
theorem zero_out : zeroEn.out = zeroSec := rfl

open Classical in
theorem refEntryOf_eq (l : List UInt8) (hl : l.length = 32) (H : Heap) : eval tbl noExt n_flotsamref07_EntryOf [.agg (bys l)] H = some (.tup [.agg (entOf l).1.cells, .bool (entOf l).2], H) := by
  have ok := bys_ok hl
  have g0 : (bys l)[0]? = some (u8 (l.getD 0 0).toNat) := by apply bys_get; rw [List.getD_eq_getElem?_getD, List.getElem?_eq_getElem (by omega)]; rfl
  have g1 : (bys l)[1]? = some (u8 (l.getD 1 0).toNat) := by apply bys_get; rw [List.getD_eq_getElem?_getD, List.getElem?_eq_getElem (by omega)]; rfl
  have g2 : (bys l)[2]? = some (u8 (l.getD 2 0).toNat) := by apply bys_get; rw [List.getD_eq_getElem?_getD, List.getElem?_eq_getElem (by omega)]; rfl
  have g3 : (bys l)[3]? = some (u8 (l.getD 3 0).toNat) := by apply bys_get; rw [List.getD_eq_getElem?_getD, List.getElem?_eq_getElem (by omega)]; rfl
  have b1 := UInt8.toNat_lt (l.getD 1 0)
  have b2 := UInt8.toNat_lt (l.getD 2 0)
  have b3 := UInt8.toNat_lt (l.getD 3 0)
  have hE := refEntry_eq (entIn l) (by unfold entIn; exact Nat.le_trans (cut_len _ _) (by omega)) []
  have hZ := refEntry_eq zeroEn (by decide) []
  have hc : (entIn l).cells = [.bool true, iw (l.getD 1 0).toNat, .str (cutOf l (l.getD 3 0).toNat), iw (l.getD 2 0).toNat] := rfl
  have hn : (entIn l).name = cutOf l (l.getD 3 0).toNat := rfl
  have s0 := sec_get0 (entIn l) rfl
  have s3 := sec_get3 (entIn l) rfl
  obtain ⟨p0, hp0⟩ : ∃ x, x = (l.getD 0 0).toNat := ⟨_, rfl⟩
  obtain ⟨p1, hp1⟩ : ∃ x, x = (l.getD 1 0).toNat := ⟨_, rfl⟩
  obtain ⟨p2, hp2⟩ : ∃ x, x = (l.getD 2 0).toNat := ⟨_, rfl⟩
  obtain ⟨p3, hp3⟩ : ∃ x, x = (l.getD 3 0).toNat := ⟨_, rfl⟩
  rw [← hp0] at g0
  rw [← hp1] at g1 b1 hc
  rw [← hp2] at g2 b2 hc
  rw [← hp3] at g3 b3 hc hn
  have k0 := get_of g0
  have k1 := get_of g1
  have k2 := get_of g2
  have k3 := get_of g3
  have w1 : IntKind.i64.wrap (p1 : Int) = p1 := by rw [w64] <;> omega
  have w2 : IntKind.i64.wrap (p2 : Int) = p2 := by rw [w64] <;> omega
  have w3 : IntKind.i64.wrap (p3 : Int) = p3 := by rw [w64] <;> omega
  have hr := rowsBytes_of (cutOf l p3)
  have oz := zeroSec_ok
  rw [zero_right, zero_out] at hZ
  simp only [zeroEn, En.cells] at hZ
  have hez := oz.eqc ok
  rw [eval_M rfl rfl t_flotsamref07_EntryOf rfl]
  unfold entOf
  by_cases h1 : p0 = 1 ∧ p3 ≤ 8
  · obtain ⟨ha, hb⟩ := h1
    subst ha
    have hz : ¬ bys l = zeroSec := by
      intro h
      rw [h] at g0
      exact absurd g0 (by simp [zeroSec, List.replicate])
    rw [if_neg hz]
    have hb' : (p3 : Int) ≤ 8 := by omega
    obtain ⟨m, hm⟩ : ∃ m, m = 16 + p3 := ⟨_, rfl⟩
    have e2 : IntKind.i64.wrap (16 + (p3 : Int)) = (m : Int) := by rw [w64] <;> omega
    have e3 : (m : Int) ≤ 32 := by omega
    have e4 : (16 : Int) ≤ m := by omega
    have e5 : m - 16 = p3 := by omega
    have f1 : 16 + p3 ≤ 32 := by omega
    have f2 : chunk 1 (bys l) 16 p3 = bytesRows (cutOf l p3) := by rw [chunk_bys p3 l 16 (by omega), cutOf, if_pos (by omega)]
    cases hg : (entIn l).right with
    | false =>
      rw [if_neg (by simp)]
      have ho : (entIn l).out = zeroSec := by unfold En.out; rw [if_neg (by simp [hg])]
      rw [hc, hg, ho] at hE
      simp [c_flotsamref07_EntryOf, ok.len, ok.take, ok.strip, ok.one, ok.under, oz.len, oz.take, oz.strip, oz.one, oz.under, h32 oz, zeroEn, En.cells, g0, g1, g2, g3, k0, k1, k2, k3, w1, w2, w3, hr, hE, hb', e2, e3, e4, e5, f1, f2]
    | true =>
      have ho : (entIn l).out = (entIn l).sec := by unfold En.out; rw [if_pos hg]
      obtain ⟨r1, r2, r3, r4, r5⟩ := right_used hg rfl
      have os : SecOK (entIn l).sec := by unfold En.sec; rw [if_pos (show (entIn l).used = true from rfl)]; exact secAt_ok _ _ _ _ _ (Nat.le_refl _) (by omega)
      have he := os.eqc ok
      rw [hc, hg, ho] at hE
      by_cases hq : bys l = (entIn l).sec
      · rw [decide_eq_true hq.symm] at he
        rw [if_pos ⟨rfl, hq⟩, hc]
        simp [c_flotsamref07_EntryOf, ok.len, ok.take, ok.strip, ok.one, ok.under, os.len, os.take, os.strip, os.one, os.under, h32 os, g0, g1, g2, g3, k0, k1, k2, k3, w1, w2, w3, hr, hE, he, hb', e2, e3, e4, e5, f1, f2]
      · rw [decide_eq_false (fun h => hq h.symm)] at he
        rw [if_neg (fun h => hq h.2)]
        simp [c_flotsamref07_EntryOf, ok.len, ok.take, ok.strip, ok.one, ok.under, os.len, os.take, os.strip, os.one, os.under, h32 os, g0, g1, g2, g3, k0, k1, k2, k3, w1, w2, w3, hr, hE, he, hb', e2, e3, e4, e5, f1, f2, zeroEn, En.cells]
  · have hB : (if (bys l) = zeroSec then (zeroEn, true) else if (entIn l).right = true ∧ bys l = (entIn l).sec then (entIn l, true) else (zeroEn, false)) = (zeroEn, decide (zeroSec = bys l)) := by
      by_cases hz : bys l = zeroSec
      · rw [if_pos hz, decide_eq_true hz.symm]
      · rw [if_neg hz, decide_eq_false (fun h => hz h.symm), if_neg]
        intro ⟨hg, hq⟩
        apply h1
        rw [hq] at g0 g3
        rw [s0] at g0
        rw [s3] at g3
        obtain ⟨r1, r2, r3, r4, r5⟩ := right_used hg rfl
        simp only [Option.some.injEq, V.int.injEq, true_and] at g0 g3
        omega
    rw [hB]
    have hcond : p0 = 1 → ¬ (p3 : Int) ≤ 8 := fun h hh => h1 ⟨h, by omega⟩
    cases hd : decide (zeroSec = bys l) with
    | true =>
      rw [hd] at hez
      by_cases h0 : p0 = 1
      · have := hcond h0
        subst h0
        simp [c_flotsamref07_EntryOf, ok.len, ok.take, ok.strip, ok.one, ok.under, oz.len, oz.take, oz.strip, oz.one, oz.under, h32 oz, zeroEn, En.cells, g0, g1, g2, g3, k0, k1, k2, k3, hZ, hez, this]
      · have h0' : ¬ (p0 : Int) = 1 := by omega
        simp [c_flotsamref07_EntryOf, ok.len, ok.take, ok.strip, ok.one, ok.under, oz.len, oz.take, oz.strip, oz.one, oz.under, h32 oz, zeroEn, En.cells, g0, g1, g2, g3, k0, k1, k2, k3, hZ, hez, h0, h0']
    | false =>
      rw [hd] at hez
      by_cases h0 : p0 = 1
      · have := hcond h0
        subst h0
        simp [c_flotsamref07_EntryOf, ok.len, ok.take, ok.strip, ok.one, ok.under, oz.len, oz.take, oz.strip, oz.one, oz.under, h32 oz, zeroEn, En.cells, g0, g1, g2, g3, k0, k1, k2, k3, hZ, hez, this]
      · have h0' : ¬ (p0 : Int) = 1 := by omega
        simp [c_flotsamref07_EntryOf, ok.len, ok.take, ok.strip, ok.one, ok.under, oz.len, oz.take, oz.strip, oz.one, oz.under, h32 oz, zeroEn, En.cells, g0, g1, g2, g3, k0, k1, k2, k3, hZ, hez, h0, h0']

end Go.AM.Spec

namespace Go.AM.Spec

theorem knows07 : eval tbl noExt n_flotsamlaw07_knows [] [] = some (.bool true, []) := (eval_iff _ _ _ _ _ _).2 ⟨200, by kernel_rfl⟩

end Go.AM.Spec

namespace Go.AM.Spec
set_option linter.unusedVariables false
set_option linter.unusedSimpArgs false
set_option maxHeartbeats 4000000
set_option maxRecDepth 20000

theorem out_ok (x : En) : SecOK x.out := by
  unfold En.out
  split
  · rename_i hr
    unfold En.sec
    split
    · rename_i hu
      exact secAt_ok _ _ _ _ _ (Nat.le_refl _) (by have := (right_used hr hu).2.2.2.2; omega)
    · exact zeroSec_ok
  · exact zeroSec_ok

theorem En.eqs (x : En) : eqCells [.bool, .int .i64, .str, .int .i64] x.cells x.cells = some true := by
  obtain ⟨a, b, c, d⟩ := x
  cases a <;> simp [eqCells, En.cells]
theorem En.len (x : En) : x.cells.length = 4 := rfl
theorem En.strip (x : En) : x.cells.map V.strip = x.cells := rfl
theorem En.take (x : En) : x.cells.take 4 = x.cells := rfl

open Classical in
theorem LayoutEntries_eq (x : En) (l : List UInt8) (hl : l.length = 32) (name : List UInt8) : eval tbl noExt n_flotsamlaw07_LayoutEntries [.agg x.cells, .agg (bys l), .str name] [] = some (.bool true, []) := by
  have hk := knows07
  rw [eval_M rfl rfl t_flotsamlaw07_LayoutEntries rfl]
  have hc : x.cells = [.bool x.used, iw x.parent, .str x.name, iw x.target] := rfl
  have ok := bys_ok hl
  by_cases h1 : x.name.length ≤ 300
  · by_cases h2 : name.length ≤ 300
    · have hE := Entry_eq x (by omega) []
      have hE' := refEntry_eq x (by omega) []
      have hR := RightEntry_eq x (by omega) []
      have hR' := refRightEntry_eq x (by omega) []
      have hO := EntryOf_eq l hl []
      have hO' := refEntryOf_eq l hl []
      have hN := LName_eq name (by omega) []
      have hN' := refLName_eq name (by omega) []
      have d1 : ¬ (300 : Int) < x.name.length := by omega
      have d2 : ¬ (300 : Int) < name.length := by omega
      have oo := out_ok x
      have he := oo.eqc oo
      rw [decide_eq_true rfl] at he
      have hes := (entOf l).1.eqs
      obtain ⟨y, hy⟩ : ∃ y, y = entOf l := ⟨_, rfl⟩
      rw [← hy] at hO hO' hes
      obtain ⟨y, b⟩ := y
      obtain ⟨yu, yp, yn, yt⟩ := y
      simp only [En.cells] at hO hO' hes
      rw [hc] at hE hE' hR hR' ⊢
      simp [c_flotsamlaw07_LayoutEntries, d1, d2, ok.len, ok.take, ok.strip, ok.one, ok.under, oo.len, oo.take, oo.strip, oo.one, oo.under, h32 oo, hE, hE', hR, hR', hO, hO', hN, hN', he, hes, hk]
    · rw [hc]
      have h2' : (300 : Int) < name.length := by omega
      have h1' : ¬ (300 : Int) < x.name.length := by omega
      simp [c_flotsamlaw07_LayoutEntries, h1, h2, h1', h2', hk]
  · rw [hc]
    have h1' : (300 : Int) < x.name.length := by omega
    simp [c_flotsamlaw07_LayoutEntries, h1, h1', hk]

theorem LayoutEntries_all (x : En) (l : List UInt8) (hl : l.length = 32) (name : List UInt8) : ∃ H', eval tbl noExt n_flotsamlaw07_LayoutEntries [.agg x.cells, .agg (bys l), .str name] [] = some (.bool true, H') := ⟨_, LayoutEntries_eq x l hl name⟩

end Go.AM.Spec
