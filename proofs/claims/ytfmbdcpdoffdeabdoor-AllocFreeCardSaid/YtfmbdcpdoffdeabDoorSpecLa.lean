/-
 The parts of this proof that speak of the functions one by one.
-/
import Derived.Test.YtfmbdcpdoffdeabDoorSpecLi
import Derived.Test.YtfmbdcpdoffdeabDoorTyl
namespace Go.AM.Spec
set_option linter.unusedVariables false
set_option linter.unusedSimpArgs false
set_option maxHeartbeats 4000000
set_option maxRecDepth 20000
def En.out (x : En) : List V := if x.right = true then x.sec else zeroSec
theorem right_used {x : En} (h : x.right = true) (hu : x.used = true) : 0 ≤ x.parent ∧ x.parent < 16 ∧ 1 ≤ x.target ∧ x.target < 16 ∧ x.name.length ≤ 8 := by
 unfold En.right at h
 rw [if_pos hu] at h
 simp only [Bool.and_eq_true, decide_eq_true_eq] at h
 have hn := h.2.2
 unfold nameOK at hn
 simp only [Bool.and_eq_true, decide_eq_true_eq] at hn
 exact ⟨h.1.1, h.1.2, h.2.1.1, h.2.1.2, hn.2.1⟩
theorem byrows_flat (s : List UInt8) : (bytesRows s).flatten = bys s := by
 unfold bytesRows bys
 induction s with
 | nil => rfl
 | cons c s ih => simp only [List.map_cons, List.flatten_cons, ih]; rfl
theorem byrows_take (s : List UInt8) (h : s.length ≤ 16) : ((bytesRows s).take (min s.length 16)).flatten = bys s := by
 rw [List.take_of_length_le (by simp [bytesRows]; omega), byrows_flat]
theorem byrows_plain (s : List UInt8) (n : Nat) : (((bytesRows s).take n).all fun r => r.all V.plain) = true := by
 rw [List.all_eq_true]
 intro r hr
 have := List.mem_of_mem_take hr
 unfold bytesRows at this
 obtain ⟨c, _, rfl⟩ := List.mem_map.1 this
 rfl
theorem sec_many_lit (p t m : Int) (s : List UInt8) (h : s.length ≤ 16) : setMany [u8 1, u8 p, u8 t, u8 m, u8 0, u8 0, u8 0, u8 0, u8 0, u8 0, u8 0, u8 0, u8 0, u8 0, u8 0, u8 0, u8 0, u8 0, u8 0, u8 0, u8 0, u8 0, u8 0, u8 0, u8 0, u8 0, u8 0, u8 0, u8 0, u8 0, u8 0, u8 0] 16 (bys s) = secAt 1 p t m s s.length := sec_many 1 p t m s h
theorem Entry_eq (x : En) (hx : x.name.length ≤ 1000) (H : Heap) : eval tbl noExt n_layout_Entry [.agg x.cells] H = some (.tup [.agg x.out, .bool x.right], H) := by
 have hR := RightEntry_eq x hx []
 rw [eval_M rfl rfl t_layout_Entry rfl]
 unfold En.out
 cases hr : x.right with
 | false =>
  rw [hr] at hR
  simp only [En.cells] at hR ⊢
  simp [c_layout_Entry, hR, zeroSec, List.replicate]
 | true =>
  rw [hr] at hR
  cases hu : x.used with
  | false =>
   have hs : x.sec = zeroSec := by unfold En.sec; rw [if_neg (by simp [hu])]
   rw [if_pos rfl, hs]
   simp only [En.cells, hu] at hR ⊢
   simp [c_layout_Entry, hR, zeroSec, List.replicate]
  | true =>
   obtain ⟨r1, r2, r3, r4, r5⟩ := right_used hr hu
   have hs : x.sec = secAt 1 x.parent x.target x.name.length x.name x.name.length := by unfold En.sec; rw [if_pos hu]
   have e1 : IntKind.u8.wrap x.parent = x.parent := by rw [IntKind.wrap_u8]; omega
   have e2 : IntKind.u8.wrap x.target = x.target := by rw [IntKind.wrap_u8]; omega
   have e3 : IntKind.u8.wrap (x.name.length : Int) = x.name.length := by rw [IntKind.wrap_u8]; omega
   have e4 := byrows_take x.name (by omega)
   have e5 := fun n => byrows_plain x.name n
   have e6 := sec_many_lit x.parent x.target x.name.length x.name (by omega)
   have e7 : (bytesRows x.name).length = x.name.length := by simp [bytesRows]
   rw [if_pos rfl, hs]
   simp only [En.cells, hu] at hR ⊢
   have ok := secAt_ok 1 x.parent x.target x.name.length x.name (Nat.le_refl _) (show x.name.length ≤ 16 by omega)
   simp [c_layout_Entry, hR, e1, e2, e3, e4, e5, e6, e7, ok.len, ok.take, ok.strip, ok.one, ok.under, h32 ok]
theorem bys_ok {l : List UInt8} (h : l.length = 32) : SecOK (bys l) := ⟨⟨l.map fun c => (c.toNat : Int), by unfold secOf bys; rw [List.map_map]; rfl, by simpa using h⟩⟩
theorem bys_get {l : List UInt8} {i : Nat} {c : UInt8} (h : l[i]? = some c) : (bys l)[i]? = some (u8 c.toNat) := by
 unfold bys
 rw [List.getElem?_map, h]; rfl
theorem chunk_bys : ∀ (n : Nat) (l : List UInt8) (off : Nat), off + n ≤ l.length → chunk 1 (bys l) off n = bytesRows ((l.drop off).take n)
 | 0, l, off, _ => by simp [chunk, bytesRows]
 | n + 1, l, off, h => by
  rw [chunk, chunk_bys n l (off + 1) (by omega)]
  have hlt : off < l.length := by omega
  rw [List.drop_eq_getElem_cons hlt, List.take_succ_cons]
  unfold bytesRows bys
  rw [List.map_cons, ← List.map_drop, ← List.map_take, List.drop_eq_getElem_cons hlt]
  rfl
theorem rowsBytes_of : ∀ s : List UInt8, rowsBytes (bytesRows s) = some s
 | [] => rfl
 | c :: s => by
  have ih := rowsBytes_of s
  have hb : c.toNat < 256 := UInt8.toNat_lt c
  unfold bytesRows at ih ⊢
  rw [List.map_cons]
  unfold rowsBytes
  rw [if_pos (by omega), ih]
  simp
def cutOf (l : List UInt8) (n : Nat) : List UInt8 := if n ≤ 16 then (l.drop 16).take n else []
theorem bys_strip (l : List UInt8) : (bys l).map V.strip = bys l := by
 unfold bys; rw [List.map_map]; rfl
theorem rows_all_plain (s : List UInt8) : ((bytesRows s).all fun r => r.all V.plain) = true := by
 rw [List.all_eq_true]
 intro r hr
 unfold bytesRows at hr
 obtain ⟨c, _, rfl⟩ := List.mem_map.1 hr
 rfl
theorem rows_len (s : List UInt8) : (bytesRows s).length = s.length := by simp [bytesRows]
theorem bys_len (l : List UInt8) : (bys l).length = l.length := by simp [bys]
theorem rowsOf_half (H : Heap) (l : List UInt8) (hl : l.length = 32) (n : Nat) (hn : n ≤ 16) : rowsOf (H ++ [some (bys l)]) 1 (.ms H.length 16 n 16) = some (bytesRows (cutOf l n)) := by
 have e : (H ++ [some (bys l)])[H.length]? = some (some (bys l)) := by
  rw [List.getElem?_append_right (Nat.le_refl _), Nat.sub_self]; rfl
 unfold rowsOf
 simp only [e]
 rw [if_pos (by rw [bys_len]; omega), bys_strip, chunk_bys n l 16 (by omega), cutOf, if_pos hn]
theorem Clone_eq (H : Heap) (l : List UInt8) (hl : l.length = 32) (n : Nat) (hn : n ≤ 16) :
  eval tbl noExt n_bytes_Clone [.ms H.length 16 n 16] (H ++ [some (bys l)]) = some (.own 1 (bytesRows (cutOf l n)), H ++ [some (bys l)]) := by
 have h1 := rowsOf_half H l hl n hn
 have h2 := rows_all_plain (cutOf l n)
 have h3 := rows_len (cutOf l n)
 have h4 : (cutOf l n).length ≤ 16 := by unfold cutOf; rw [if_pos hn, List.length_take]; omega
 have h5 : 2 * (0 + (bytesRows (cutOf l n)).length) * 1 ≤ 2 ^ 48 := by rw [h3]; omega
 have g1 : 16 + n ≤ (bys l).length := by rw [bys_len]; omega
 have g2 : chunk 1 (List.map V.strip (bys l)) 16 n = bytesRows (cutOf l n) := by rw [bys_strip, chunk_bys n l 16 (by omega), cutOf, if_pos hn]
 have g3 : 2 * (cutOf l n).length ≤ 281474976710656 := by omega
 rw [eval_M rfl rfl t_bytes_Clone rfl]
 simp [c_bytes_Clone, g1, g2, g3, h2, h3, List.take_of_length_le]
theorem fits_eq (n : Nat) (H : Heap) : eval tbl noExt n_sector_fits [iw 16, iw n] H = some (.bool (decide (n ≤ 16)), H) := by
 have e1 : IntKind.i64.wrap 16 = 16 := rfl
 rw [eval_M rfl rfl t_sector_fits rfl]
 by_cases h : n ≤ 16
 ·have h' : (n : Int) ≤ 16 := by omega
  simp [c_sector_fits, h, h', e1]
 ·have h' : ¬ (n : Int) ≤ 16 := by omega
  have h'' : (16 : Int) < n := by omega
  simp [c_sector_fits, h, h', h'', e1]
theorem Cut_eq (l : List UInt8) (hl : l.length = 32) (n : Nat) (hn : n < 256) (H : Heap) :
  eval tbl noExt n_sector_Cut [.agg (bys l), iw 16, iw n] H = some (.own 1 (bytesRows (cutOf l n)), H) := by
 have hC := Clone_eq H l hl n
 have e1 : IntKind.i64.wrap (32 - 16) = 16 := rfl
 have ok := bys_ok hl
 have hf := fits_eq n []
 rw [eval_M rfl rfl t_sector_Cut rfl]
 by_cases h : n ≤ 16
 ·have hC := hC h
  obtain ⟨m, hm⟩ : ∃ m, m = 16 + n := ⟨_, rfl⟩
  have e2 : IntKind.i64.wrap (16 + (n : Int)) = (m : Int) := by rw [w64] <;> omega
  have e3 : (m : Int) ≤ 32 := by omega
  have e4 : (16 : Int) ≤ m := by omega
  have e5 : m - 16 = n := by omega
  simp [c_sector_Cut, h, hC, hf, e2, e3, e4, e5]
 ·simp [c_sector_Cut, h, hf, cutOf, bytesRows]
open Classical in
theorem Zero_eq (l : List UInt8) (hl : l.length = 32) (H : Heap) : eval tbl noExt n_sector_Zero [.agg (bys l)] H = some (.bool (decide (bys l = zeroSec)), H) := by
 have ok := bys_ok hl
 have he := ok.eqc zeroSec_ok
 have hz : [u8 0, u8 0, u8 0, u8 0, u8 0, u8 0, u8 0, u8 0, u8 0, u8 0, u8 0, u8 0, u8 0, u8 0, u8 0, u8 0, u8 0, u8 0, u8 0, u8 0, u8 0, u8 0, u8 0, u8 0, u8 0, u8 0, u8 0, u8 0, u8 0, u8 0, u8 0, u8 0] = zeroSec := rfl
 rw [eval_M rfl rfl t_sector_Zero rfl]
 simp [c_sector_Zero, ok.len, ok.take, ok.strip, ok.one, ok.under, hz, he]
theorem get_of {α : Type} {l : List α} {i : Nat} {c : α} (h : l[i]? = some c) : ∀ h : i < l.length, l[i] = c := fun hi => by
 rw [List.getElem?_eq_getElem hi] at h; exact Option.some.inj h
def entIn (l : List UInt8) : En := ⟨true, (l.getD 1 0).toNat, cutOf l (l.getD 3 0).toNat, (l.getD 2 0).toNat⟩
open Classical in
noncomputable def entOf (l : List UInt8) : En × Bool :=
 if bys l = zeroSec then (zeroEn, true)
 else if (entIn l).right = true ∧ bys l = (entIn l).sec then (entIn l, true) else (zeroEn, false)
theorem cut_len (l : List UInt8) (n : Nat) : (cutOf l n).length ≤ 16 := by
 unfold cutOf
 split
 ·rw [List.length_take]; omega
 ·simp
open Classical in
theorem EntryOf_eq (l : List UInt8) (hl : l.length = 32) (H : Heap) : eval tbl noExt n_layout_EntryOf [.agg (bys l)] H = some (.tup [.agg (entOf l).1.cells, .bool (entOf l).2], H) := by
 have ok := bys_ok hl
 have hZ := Zero_eq l hl []
 have g1 : (bys l)[1]? = some (u8 (l.getD 1 0).toNat) := by apply bys_get; rw [List.getD_eq_getElem?_getD, List.getElem?_eq_getElem (by omega)]; rfl
 have g2 : (bys l)[2]? = some (u8 (l.getD 2 0).toNat) := by apply bys_get; rw [List.getD_eq_getElem?_getD, List.getElem?_eq_getElem (by omega)]; rfl
 have g3 : (bys l)[3]? = some (u8 (l.getD 3 0).toNat) := by apply bys_get; rw [List.getD_eq_getElem?_getD, List.getElem?_eq_getElem (by omega)]; rfl
 have b1 := UInt8.toNat_lt (l.getD 1 0)
 have b2 := UInt8.toNat_lt (l.getD 2 0)
 have b3 := UInt8.toNat_lt (l.getD 3 0)
 have hC := Cut_eq l hl (l.getD 3 0).toNat (by simpa using b3) []
 have hE := Entry_eq (entIn l) (by unfold entIn; exact Nat.le_trans (cut_len _ _) (by omega)) []
 have hc : (entIn l).cells = [.bool true, iw (l.getD 1 0).toNat, .str (cutOf l (l.getD 3 0).toNat), iw (l.getD 2 0).toNat] := rfl
 obtain ⟨p1, hp1⟩ : ∃ x, x = (l.getD 1 0).toNat := ⟨_, rfl⟩
 obtain ⟨p2, hp2⟩ : ∃ x, x = (l.getD 2 0).toNat := ⟨_, rfl⟩
 obtain ⟨p3, hp3⟩ : ∃ x, x = (l.getD 3 0).toNat := ⟨_, rfl⟩
 rw [← hp1] at g1 b1 hc
 rw [← hp2] at g2 b2 hc
 rw [← hp3] at g3 b3 hc hC
 have k1 := get_of g1
 have k2 := get_of g2
 have k3 := get_of g3
 have w1 : IntKind.i64.wrap (p1 : Int) = p1 := by rw [w64] <;> omega
 have w2 : IntKind.i64.wrap (p2 : Int) = p2 := by rw [w64] <;> omega
 have w3 : IntKind.i64.wrap (p3 : Int) = p3 := by rw [w64] <;> omega
 have hr := rowsBytes_of (cutOf l p3)
 rw [eval_M rfl rfl t_layout_EntryOf rfl]
 unfold entOf
 by_cases hz : bys l = zeroSec
 ·rw [if_pos hz]
  rw [decide_eq_true hz] at hZ
  simp [c_layout_EntryOf, ok.len, ok.take, ok.strip, ok.one, ok.under, hZ, zeroEn, En.cells]
 ·rw [if_neg hz]
  rw [decide_eq_false hz] at hZ
  cases hg : (entIn l).right with
  | false =>
   rw [if_neg (by simp)]
   have ho : (entIn l).out = zeroSec := by unfold En.out; rw [if_neg (by simp [hg])]
   have oz := zeroSec_ok
   rw [hc, hg, ho] at hE
   simp [c_layout_EntryOf, ok.len, ok.take, ok.strip, ok.one, ok.under, oz.len, oz.take, oz.strip, oz.one, oz.under, h32 oz, hZ, zeroEn, En.cells, g1, g2, g3, k1, k2, k3, w1, w2, w3, hC, hr, hE]
  | true =>
   have ho : (entIn l).out = (entIn l).sec := by unfold En.out; rw [if_pos hg]
   obtain ⟨r1, r2, r3, r4, r5⟩ := right_used hg rfl
   have os : SecOK (entIn l).sec := by unfold En.sec; rw [if_pos (show (entIn l).used = true from rfl)]; exact secAt_ok _ _ _ _ _ (Nat.le_refl _) (by omega)
   have he := ok.eqc os
   rw [hc, hg, ho] at hE
   by_cases hq : bys l = (entIn l).sec
   ·rw [decide_eq_true hq] at he
    rw [if_pos ⟨rfl, hq⟩, hc]
    simp [c_layout_EntryOf, ok.len, ok.take, ok.strip, ok.one, ok.under, os.len, os.take, os.strip, os.one, os.under, h32 os, hZ, g1, g2, g3, k1, k2, k3, w1, w2, w3, hC, hr, hE, he]
   ·rw [decide_eq_false hq] at he
    rw [if_neg (fun h => hq h.2)]
    simp [c_layout_EntryOf, ok.len, ok.take, ok.strip, ok.one, ok.under, os.len, os.take, os.strip, os.one, os.under, h32 os, hZ, g1, g2, g3, k1, k2, k3, w1, w2, w3, hC, hr, hE, he, zeroEn, En.cells]
theorem RightInode_eq (k s a b c d : Int) (H : Heap) : eval tbl noExt n_layout_RightInode [.agg [iw k, iw s, iw a, iw b, iw c, iw d]] H = some (.bool (inoOK k s a b c d), H) := by
 rw [eval_X (e := xRightInode) rfl rfl]; rfl
def inoL (k s a b c d : Int) : List Int := [k, s, a, b, c, d] ++ List.replicate 26 0
def inoOut (k s a b c d : Int) : List Int := if inoOK k s a b c d = true then inoL k s a b c d else List.replicate 32 0
theorem inoOut_len (k s a b c d : Int) : (inoOut k s a b c d).length = 32 := by unfold inoOut; split <;> rfl
theorem odd_bound {b : Int} (h : odd24 b = false) : 0 ≤ b ∧ b ≤ 24 := by
 unfold odd24 at h
 simp at h
 omega
theorem ino_bounds {k s a b c d : Int} (h : inoOK k s a b c d = true) : (0 ≤ k ∧ k ≤ 2) ∧ (0 ≤ s ∧ s ≤ 128) ∧ (0 ≤ a ∧ a ≤ 24) ∧ (0 ≤ b ∧ b ≤ 24) ∧ (0 ≤ c ∧ c ≤ 24) ∧ (0 ≤ d ∧ d ≤ 24) := by
 unfold inoOK at h
 split at h
 ·rename_i hk
  simp at h
  omega
 ·split at h
  ·rename_i hk
   split at h
   ·cases h
   ·rename_i hs
    obtain ⟨n, hn⟩ : ∃ n, n = ((s + 31) / 32).toNat := ⟨_, rfl⟩
    rw [← hn] at h
    unfold rinB at h
    simp only [Bool.and_eq_true, Bool.not_eq_true', decide_eq_true_eq] at h
    obtain ⟨⟨h1, h2⟩, _⟩ := h
    have key : ∀ x ∈ [a, b, c, d], 0 ≤ x ∧ x ≤ 24 := by
     intro x hx
     rw [← List.take_append_drop n [a, b, c, d], List.mem_append] at hx
     rcases hx with hx | hx
     ·exact odd_bound (by simpa using List.any_eq_false.1 h1 x hx)
     ·have := List.any_eq_false.1 h2 x hx
      simp at this
      omega
    simp only [List.mem_cons, List.not_mem_nil, or_false, forall_eq_or_imp, forall_eq] at key
    refine ⟨by omega, by omega, key.1, key.2.1, key.2.2.1, key.2.2.2⟩
  ·cases h
theorem wu8 {n : Int} (h0 : 0 ≤ n) (h1 : n ≤ 255) : IntKind.u8.wrap n = n := by rw [IntKind.wrap_u8]; omega
theorem Inode_eq (k s a b c d : Int) (H : Heap) : eval tbl noExt n_layout_Inode [.agg [iw k, iw s, iw a, iw b, iw c, iw d]] H = some (.tup [.agg (secOf (inoOut k s a b c d)), .bool (inoOK k s a b c d)], H) := by
 have hR := RightInode_eq k s a b c d []
 rw [eval_M rfl rfl t_layout_Inode rfl]
 unfold inoOut
 cases hr : inoOK k s a b c d with
 | false =>
  rw [hr] at hR
  simp [c_layout_Inode, hR, secOf, List.replicate]
 | true =>
  rw [hr] at hR
  obtain ⟨bk, bs, ba, bb, bc, bd⟩ := ino_bounds hr
  have ek := wu8 bk.1 (by omega)
  have es := wu8 bs.1 (by omega)
  have ea := wu8 ba.1 (by omega)
  have eb := wu8 bb.1 (by omega)
  have ec := wu8 bc.1 (by omega)
  have ed := wu8 bd.1 (by omega)
  have v1 : IntKind.i64.wrap 1 = 1 := rfl
  have v2 : IntKind.i64.wrap 2 = 2 := rfl
  have v3 : IntKind.i64.wrap 3 = 3 := rfl
  have v4 : IntKind.i64.wrap 4 = 4 := rfl
  have v5 : IntKind.i64.wrap 5 = 5 := rfl
  simp [c_layout_Inode, hR, ek, es, V.apart, storeOf]
  rw [l_layout_Inode_0, M_loop, ← l_layout_Inode_0]
  simp [b_layout_Inode_0, v1, v2, ea]
  rw [l_layout_Inode_0, M_loop, ← l_layout_Inode_0]
  simp [b_layout_Inode_0, v2, v3, eb]
  rw [l_layout_Inode_0, M_loop, ← l_layout_Inode_0]
  simp [b_layout_Inode_0, v3, v4, ec]
  rw [l_layout_Inode_0, M_loop, ← l_layout_Inode_0]
  simp [b_layout_Inode_0, v4, v5, ed]
  rw [l_layout_Inode_0, M_loop, ← l_layout_Inode_0]
  simp [b_layout_Inode_0, r_layout_Inode_0]
  rfl
theorem inoOut_ok (k s a b c d : Int) : SecOK (secOf (inoOut k s a b c d)) := SecOK.of _ (inoOut_len ..)
def six (l : List UInt8) : Int × Int × Int × Int × Int × Int := ((l.getD 0 0).toNat, (l.getD 1 0).toNat, (l.getD 2 0).toNat, (l.getD 3 0).toNat, (l.getD 4 0).toNat, (l.getD 5 0).toNat)
def inoCells (x : Int × Int × Int × Int × Int × Int) : List V := [iw x.1, iw x.2.1, iw x.2.2.1, iw x.2.2.2.1, iw x.2.2.2.2.1, iw x.2.2.2.2.2]
def okOf (x : Int × Int × Int × Int × Int × Int) : Bool := inoOK x.1 x.2.1 x.2.2.1 x.2.2.2.1 x.2.2.2.2.1 x.2.2.2.2.2
def outOf (x : Int × Int × Int × Int × Int × Int) : List Int := inoOut x.1 x.2.1 x.2.2.1 x.2.2.2.1 x.2.2.2.2.1 x.2.2.2.2.2
open Classical in
noncomputable def inoOf (l : List UInt8) : (Int × Int × Int × Int × Int × Int) × Bool :=
 if okOf (six l) = true ∧ bys l = secOf (outOf (six l)) then (six l, true) else ((0, 0, 0, 0, 0, 0), false)
theorem get_at {α : Type} {l : List α} {i : Nat} {c : α} (h : l[i]? = some c) : ∀ h : i < l.length, l[i] = c := fun hi => by
 rw [List.getElem?_eq_getElem hi] at h; exact Option.some.inj h
theorem bys_at (l : List UInt8) (hl : l.length = 32) {i : Nat} (h : i < 32) : (bys l)[i]? = some (u8 (l.getD i 0).toNat) := by
 unfold bys
 rw [List.getElem?_map, List.getD_eq_getElem?_getD, List.getElem?_eq_getElem (by omega)]
 rfl
open Classical in
theorem InodeOf_eq (l : List UInt8) (hl : l.length = 32) (H : Heap) : eval tbl noExt n_layout_InodeOf [.agg (bys l)] H = some (.tup [.agg (inoCells (inoOf l).1), .bool (inoOf l).2], H) := by
 have hb : (bys l).length = 32 := by simp [bys, hl]
 have ok : SecOK (bys l) := ⟨⟨l.map fun c => (c.toNat : Int), by unfold bys secOf; rw [List.map_map]; rfl, by simpa using hl⟩⟩
 have g0 := bys_at l hl (i := 0) (by omega)
 have g1 := bys_at l hl (i := 1) (by omega)
 have g2 := bys_at l hl (i := 2) (by omega)
 have g3 := bys_at l hl (i := 3) (by omega)
 have g4 := bys_at l hl (i := 4) (by omega)
 have g5 := bys_at l hl (i := 5) (by omega)
 have t0 := UInt8.toNat_lt (l.getD 0 0)
 have t1 := UInt8.toNat_lt (l.getD 1 0)
 have t2 := UInt8.toNat_lt (l.getD 2 0)
 have t3 := UInt8.toNat_lt (l.getD 3 0)
 have t4 := UInt8.toNat_lt (l.getD 4 0)
 have t5 := UInt8.toNat_lt (l.getD 5 0)
 have h6 : six l = (((l.getD 0 0).toNat : Int), ((l.getD 1 0).toNat : Int), ((l.getD 2 0).toNat : Int), ((l.getD 3 0).toNat : Int), ((l.getD 4 0).toNat : Int), ((l.getD 5 0).toNat : Int)) := rfl
 unfold inoOf
 rw [h6]
 obtain ⟨p0, hp0⟩ : ∃ x, x = (l.getD 0 0).toNat := ⟨_, rfl⟩
 obtain ⟨p1, hp1⟩ : ∃ x, x = (l.getD 1 0).toNat := ⟨_, rfl⟩
 obtain ⟨p2, hp2⟩ : ∃ x, x = (l.getD 2 0).toNat := ⟨_, rfl⟩
 obtain ⟨p3, hp3⟩ : ∃ x, x = (l.getD 3 0).toNat := ⟨_, rfl⟩
 obtain ⟨p4, hp4⟩ : ∃ x, x = (l.getD 4 0).toNat := ⟨_, rfl⟩
 obtain ⟨p5, hp5⟩ : ∃ x, x = (l.getD 5 0).toNat := ⟨_, rfl⟩
 rw [← hp0] at g0 t0 ⊢
 rw [← hp1] at g1 t1 ⊢
 rw [← hp2] at g2 t2 ⊢
 rw [← hp3] at g3 t3 ⊢
 rw [← hp4] at g4 t4 ⊢
 rw [← hp5] at g5 t5 ⊢
 clear hp0 hp1 hp2 hp3 hp4 hp5 h6
 have k0 := get_at g0
 have k1 := get_at g1
 have k2 := get_at g2
 have k3 := get_at g3
 have k4 := get_at g4
 have k5 := get_at g5
 have w0 : IntKind.i64.wrap (p0 : Int) = p0 := by rw [w64] <;> omega
 have w1 : IntKind.i64.wrap (p1 : Int) = p1 := by rw [w64] <;> omega
 have w2 : IntKind.i64.wrap (p2 : Int) = p2 := by rw [w64] <;> omega
 have w3 : IntKind.i64.wrap (p3 : Int) = p3 := by rw [w64] <;> omega
 have w4 : IntKind.i64.wrap (p4 : Int) = p4 := by rw [w64] <;> omega
 have w5 : IntKind.i64.wrap (p5 : Int) = p5 := by rw [w64] <;> omega
 have v1 : IntKind.i64.wrap 1 = 1 := rfl
 have v2 : IntKind.i64.wrap 2 = 2 := rfl
 have v3 : IntKind.i64.wrap 3 = 3 := rfl
 have v4 : IntKind.i64.wrap 4 = 4 := rfl
 have v5 : IntKind.i64.wrap 5 = 5 := rfl
 have hE := Inode_eq p0 p1 p2 p3 p4 p5 []
 have os := inoOut_ok p0 p1 p2 p3 p4 p5
 have he := ok.eqc os
 have hI : (if okOf ((p0 : Int), (p1 : Int), (p2 : Int), (p3 : Int), (p4 : Int), (p5 : Int)) = true ∧ bys l = secOf (outOf ((p0 : Int), (p1 : Int), (p2 : Int), (p3 : Int), (p4 : Int), (p5 : Int))) then (((p0 : Int), (p1 : Int), (p2 : Int), (p3 : Int), (p4 : Int), (p5 : Int)), true) else ((0, 0, 0, 0, 0, 0), false)) =
   (if inoOK p0 p1 p2 p3 p4 p5 = true ∧ bys l = secOf (inoOut p0 p1 p2 p3 p4 p5) then (((p0 : Int), (p1 : Int), (p2 : Int), (p3 : Int), (p4 : Int), (p5 : Int)), true) else ((0, 0, 0, 0, 0, 0), false)) := rfl
 rw [hI]
 generalize hO : secOf (inoOut p0 p1 p2 p3 p4 p5) = O at *
 rw [eval_M rfl rfl t_layout_InodeOf rfl]
 simp [c_layout_InodeOf, ok.len, ok.take, ok.strip, ok.one, ok.under, g0, g1, k0, k1, w0, w1]
 rw [l_layout_InodeOf_0, M_loop, ← l_layout_InodeOf_0]
 simp [b_layout_InodeOf_0, v1, v2, ok.len, g2, k2, w2]
 rw [l_layout_InodeOf_0, M_loop, ← l_layout_InodeOf_0]
 simp [b_layout_InodeOf_0, v2, v3, ok.len, g3, k3, w3]
 rw [l_layout_InodeOf_0, M_loop, ← l_layout_InodeOf_0]
 simp [b_layout_InodeOf_0, v3, v4, ok.len, g4, k4, w4]
 rw [l_layout_InodeOf_0, M_loop, ← l_layout_InodeOf_0]
 simp [b_layout_InodeOf_0, v4, v5, ok.len, g5, k5, w5]
 rw [l_layout_InodeOf_0, M_loop, ← l_layout_InodeOf_0]
 cases hr : inoOK p0 p1 p2 p3 p4 p5 with
 | false =>
  rw [hr] at hE
  simp [b_layout_InodeOf_0, r_layout_InodeOf_0, hE, os.len, os.take, os.strip, os.one, os.under, h32 os, inoCells]
 | true =>
  rw [hr] at hE
  by_cases hq : bys l = O
  ·rw [decide_eq_true hq, hq] at he
   simp [b_layout_InodeOf_0, r_layout_InodeOf_0, hE, ok.len, ok.take, ok.strip, ok.one, ok.under, os.len, os.take, os.strip, os.one, os.under, h32 os, he, hq, inoCells]
  ·rw [decide_eq_false hq] at he
   simp [b_layout_InodeOf_0, r_layout_InodeOf_0, hE, ok.len, ok.take, ok.strip, ok.one, ok.under, os.len, os.take, os.strip, os.one, os.under, h32 os, he, hq, inoCells]
end Go.AM.Spec
namespace Go.AM
open Go.ChangeShapes Go.WideShapes Go.Deep
set_option linter.unusedVariables false
namespace Spec
section
variable {P : Program}
theorem bytes_of {e : TypeId} (he : P.underlying e = some (.int .u8)) : ∀ {parts : List (List V)}, (∀ p ∈ parts, Ty P e p) → ∃ l : List UInt8, parts.flatten = bys l ∧ l.length = parts.length
 | [], _ => ⟨[], rfl, rfl⟩
 | p :: parts, h => by
  obtain ⟨l, h1, h2⟩ := bytes_of he (parts := parts) (fun q hq => h q (by simp [hq]))
  obtain ⟨n, rfl, hw⟩ := Ty_int_of (h p (by simp)) he
  have hr : 0 ≤ n ∧ n < 256 := by
   simp only [Lit.wf, Bool.and_eq_true, decide_eq_true_eq] at hw
   rw [show IntKind.u8.min = 0 from rfl, show IntKind.u8.max = 255 from rfl] at hw
   omega
  refine ⟨UInt8.ofNat n.toNat :: l, ?_, by simp [h2]⟩
  have e1 : ((UInt8.ofNat n.toNat).toNat : Int) = n := by
   rw [UInt8.toNat_ofNat']
   omega
  rw [List.flatten_cons, h1]
  show V.int .u8 n :: bys l = u8 ((UInt8.ofNat n.toNat).toNat : Int) :: bys l
  rw [e1]
theorem sec_of {t e : TypeId} {vs : List V} (h : Ty P t vs) (hu : P.underlying t = some (.array 32 e)) (he : P.underlying e = some (.int .u8)) : ∃ l : List UInt8, vs = bys l ∧ l.length = 32 := by
 obtain ⟨parts, rfl, hl, hp⟩ := Ty_arr_of h hu
 obtain ⟨l, h1, h2⟩ := bytes_of he hp
 exact ⟨l, h1, by rw [h2, hl]⟩
theorem secs_of {H : Type} {enc : TypeId × Value → H} {w : World} {ts : List TypeId} (hts : ∀ t ∈ ts, plainAt P ts t = true) {t e b : TypeId} (ht : t ∈ ts) (hu : P.underlying t = some (.slice e)) (he : P.underlying e = some (.array 32 b)) (hb : P.underlying b = some (.int .u8)) (hc : P.cellsOf e = 32)
  {r : Reach} {b0 : Nat} {v : Value} {d : DataW H} {p : List MemPlace} (hv : Value.okWide P w r b0 t v) (h : DataW.Trod enc P w 0 (fun _ => true) true t v d p) :
  ∃ l : List (List UInt8), (∀ s ∈ l, s.length = 32) ∧ R w (fun _ _ => False) [] (.sl 32 (l.map bys)) v := by
 obtain ⟨a, len, cap, rfl⟩ := okWide_slice hu hv
 obtain ⟨vs, hty, hpr⟩ := open_list hts ht hu (v := .slice a len cap) rfl h
 obtain ⟨rows, hr, _, hel⟩ := Ty_sl_of hty hu
 cases hr
 rw [hc] at hpr
 have key : ∀ {rows : List (List V)}, (∀ r ∈ rows, Ty P e r) → ∃ l : List (List UInt8), rows = l.map bys ∧ ∀ s ∈ l, s.length = 32 := by
  intro rows
  induction rows with
  | nil => intro _; exact ⟨[], rfl, by simp⟩
  | cons r rows ih =>
   intro h
   obtain ⟨l, rfl, h2⟩ := ih (fun q hq => h q (by simp [hq]))
   obtain ⟨s, rfl, hs⟩ := sec_of (h r (by simp)) he hb
   refine ⟨s :: l, rfl, fun q hq => ?_⟩
   rcases List.mem_cons.1 hq with rfl | hq
   ·exact hs
   ·exact h2 q hq
 obtain ⟨l, rfl, h2⟩ := key hel
 exact ⟨l, h2, .pr hpr⟩
end
end Spec
end Go.AM
