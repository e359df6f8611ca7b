/-
 The parts of this proof that speak of the functions one by one.
-/
import Derived.Test.YtlpokbhooaffmaaGreatDoorSpecPb
import Derived.Test.YtlpokbhooaffmaaGreatDoorSpecPa
namespace Go.AM.Spec
set_option linter.unusedVariables false
set_option linter.unusedSimpArgs false
set_option maxHeartbeats 2000000
set_option maxRecDepth 10000
open PS
/-- Where the document's parser is, how many statements were begun, and the first fault. -/
structure TS where
 at_ : Nat
 st : Int
 fe : Int
 fa : Int
namespace TS
def cells (L : List Wx) (t : TS) : List V := [.sl 4 (wrows L), iw t.at_, iw t.st, iw t.fe, iw t.fa]
def next (t : TS) : TS := ⟨t.at_ + 1, t.st, t.fe, t.fa⟩
def fail (t : TS) (e : Int) (w : Wx) : TS := if t.fe = 0 then ⟨t.at_, t.st, e, w.a⟩ else t
def sees (t : TS) (w : Wx) (k : List UInt8) : Bool := decide (t.fe = 0) && (decide (w.s = k) && (decide (w.kind = 4) || decide (w.kind = 5)))
end TS
/-- The memory with the document's parser in block i. -/
def Ht (HB : Heap) (i : Nat) (L : List Wx) (t : TS) : Heap := HB.set i (some (t.cells L))
theorem wrows_len (L : List Wx) : (wrows L).length = L.length := by simp [wrows]
theorem wrows_at {L : List Wx} {k : Nat} {w : Wx} (h : L[k]? = some w) : (wrows L)[k]? = some w.cells := by rw [wrows, List.getElem?_map, h]; rfl
section
variable {HB : Heap} {i : Nat} {L : List Wx}
theorem Ht_len (s : TS) : (Ht HB i L s).length = HB.length := by simp [Ht]
theorem gHt (hi : i < HB.length) (s : TS) (r : Heap) : (Ht HB i L s ++ r)[i]? = some (some (s.cells L)) := by
 rw [List.getElem?_append_left (by rw [Ht_len]; exact hi)]; exact List.getElem?_set_self hi
theorem sHt (hi : i < HB.length) (s t : TS) (r : Heap) : (Ht HB i L s ++ r).set i (some (t.cells L)) = Ht HB i L t ++ r := by
 rw [List.set_append_left _ _ (by rw [Ht_len]; exact hi)]
 simp [Ht]
/-! The memory with a caller's blocks behind. -/
@[simp] theorem qLen (s : TS) (r : Heap) : (Ht HB i L s ++ r).length = HB.length + r.length := by simp [Ht_len]
@[simp] theorem qTk (s : TS) (r t : Heap) : (Ht HB i L s ++ (r ++ t)).take (HB.length + r.length) = Ht HB i L s ++ r := by
 rw [← List.append_assoc, List.take_append_of_le_length (by simp [Ht_len]), List.take_of_length_le (by simp [Ht_len])]
@[simp] theorem qTk' (s : TS) (r : Heap) : (Ht HB i L s ++ r).take (HB.length + r.length) = Ht HB i L s ++ r := List.take_of_length_le (by simp [Ht_len])
@[simp] theorem qG0 (s : TS) (r : Heap) (x : Option (List V)) (t : Heap) : (Ht HB i L s ++ (r ++ x :: t))[HB.length + r.length]? = some x := by
 have := get0 (Ht HB i L s ++ r) x t
 rwa [qLen, List.append_assoc] at this
@[simp] theorem qG1 (s : TS) (r : Heap) (x y : Option (List V)) (t : Heap) : (Ht HB i L s ++ (r ++ x :: y :: t))[HB.length + r.length + 1]? = some y := by
 have := get1 (Ht HB i L s ++ r) x y t
 rwa [qLen, List.append_assoc] at this
@[simp] theorem qG2 (s : TS) (r : Heap) (x y z : Option (List V)) (t : Heap) : (Ht HB i L s ++ (r ++ x :: y :: z :: t))[HB.length + r.length + 2]? = some z := by
 rw [List.getElem?_append_right (by rw [Ht_len]; omega), Ht_len, List.getElem?_append_right (by omega)]
 have : HB.length + r.length + 2 - HB.length - r.length = 2 := by omega
 rw [this]; rfl
@[simp] theorem qS0 (s : TS) (r : Heap) (x y : Option (List V)) (t : Heap) : (Ht HB i L s ++ (r ++ x :: t)).set (HB.length + r.length) y = Ht HB i L s ++ (r ++ y :: t) := by
 have := set0 (Ht HB i L s ++ r) x y t
 rwa [qLen, List.append_assoc, List.append_assoc] at this
@[simp] theorem qS1 (s : TS) (r : Heap) (x y z : Option (List V)) (t : Heap) : (Ht HB i L s ++ (r ++ x :: y :: t)).set (HB.length + r.length + 1) z = Ht HB i L s ++ (r ++ x :: z :: t) := by
 have := set1 (Ht HB i L s ++ r) x y z t
 rwa [qLen, List.append_assoc, List.append_assoc] at this
@[simp] theorem qS2 (s : TS) (r : Heap) (x y z u : Option (List V)) (t : Heap) : (Ht HB i L s ++ (r ++ x :: y :: z :: t)).set (HB.length + r.length + 2) u = Ht HB i L s ++ (r ++ x :: y :: u :: t) := by
 rw [List.set_append_right _ _ (by rw [Ht_len]; omega), Ht_len, List.set_append_right _ _ (by omega)]
 have : HB.length + r.length + 2 - HB.length - r.length = 2 := by omega
 rw [this]; rfl
@[simp] theorem qG1' (s : TS) (r : Heap) (x y : Option (List V)) (t : Heap) : (Ht HB i L s ++ (r ++ x :: y :: t))[HB.length + (r.length + 1)]? = some y := qG1 s r x y t
@[simp] theorem qG2' (s : TS) (r : Heap) (x y z : Option (List V)) (t : Heap) : (Ht HB i L s ++ (r ++ x :: y :: z :: t))[HB.length + (r.length + 2)]? = some z := qG2 s r x y z t
@[simp] theorem qG2'' (s : TS) (r : Heap) (x y z : Option (List V)) (t : Heap) : (Ht HB i L s ++ (r ++ x :: y :: z :: t))[HB.length + (r.length + 1 + 1)]? = some z := qG2 s r x y z t
@[simp] theorem qS1' (s : TS) (r : Heap) (x y z : Option (List V)) (t : Heap) : (Ht HB i L s ++ (r ++ x :: y :: t)).set (HB.length + (r.length + 1)) z = Ht HB i L s ++ (r ++ x :: z :: t) := qS1 s r x y z t
@[simp] theorem qS2' (s : TS) (r : Heap) (x y z u : Option (List V)) (t : Heap) : (Ht HB i L s ++ (r ++ x :: y :: z :: t)).set (HB.length + (r.length + 2)) u = Ht HB i L s ++ (r ++ x :: y :: u :: t) := qS2 s r x y z u t
@[simp] theorem qS2'' (s : TS) (r : Heap) (x y z u : Option (List V)) (t : Heap) : (Ht HB i L s ++ (r ++ x :: y :: z :: t)).set (HB.length + (r.length + 1 + 1)) u = Ht HB i L s ++ (r ++ x :: y :: u :: t) := qS2 s r x y z u t
theorem tnow_eq (hi : i < HB.length) {t : TS} {w : Wx} (hw : L[t.at_]? = some w) (r : Heap) : eval tbl noExt n_rt_now [.ptr i 0] (Ht HB i L t ++ r) = some (.agg w.cells, Ht HB i L t ++ r) := by
 have gI := fun r => gHt (L := L) hi t r
 unfold TS.cells at gI
 have hlt : t.at_ < L.length := (List.getElem?_eq_some_iff.1 hw).1
 have hlt' : (t.at_ : Int) < L.length := by omega
 have hr := wrows_at hw
 have hl := wrows_len L
 have hr' : ∀ h : t.at_ < (wrows L).length, (wrows L)[t.at_] = w.cells := fun h => by rw [List.getElem?_eq_getElem h] at hr; exact Option.some.inj hr
 have hwc : w.cells = [iw w.kind, .str w.s, iw w.n, iw w.a] := rfl
 rw [hwc] at hr hr' ⊢
 rw [eval_M rfl rfl t_rt_now rfl]
 simp [c_rt_now, gI, hr', hl, hlt, hlt', Ht_len]
theorem tbad_eq (hi : i < HB.length) (t : TS) (r : Heap) : eval tbl noExt n_rt_bad [.ptr i 0] (Ht HB i L t ++ r) = some (.bool (!decide (t.fe = 0)), Ht HB i L t ++ r) := by
 have gI := fun r => gHt (L := L) hi t r
 unfold TS.cells at gI
 rw [eval_M rfl rfl t_rt_bad rfl]
 simp [c_rt_bad, gI, Ht_len]
theorem tfail_eq (hi : i < HB.length) (t : TS) (e : Int) (w : Wx) (r : Heap) : eval tbl noExt n_rt_fail [.ptr i 0, .int .i64 e, .agg w.cells] (Ht HB i L t ++ r) = some (.tup [], Ht HB i L (t.fail e w) ++ r) := by
 have gI := fun r => gHt (L := L) hi t r
 have hS := fun r => sHt (L := L) hi t ⟨t.at_, t.st, e, w.a⟩ r
 unfold TS.cells at gI hS
 have hb := fun r => tbad_eq (L := L) hi t r
 have hwc : w.cells = [iw w.kind, .str w.s, iw w.n, iw w.a] := rfl
 rw [hwc]
 unfold TS.fail
 rw [eval_M rfl rfl t_rt_fail rfl]
 by_cases h0 : t.fe = 0
 ·rw [if_pos h0]
  simp only [h0] at hb gI hS
  simp [c_rt_fail, gI, hb, h0, hS, Ht_len]
 ·rw [if_neg h0]
  simp [c_rt_fail, gI, hb, h0, Ht_len]
theorem tis_eq (hi : i < HB.length) {t : TS} {w : Wx} (hw : L[t.at_]? = some w) (k : List UInt8) (r : Heap) : eval tbl noExt n_rt_is [.ptr i 0, .str k] (Ht HB i L t ++ r) = some (.bool (t.sees w k), Ht HB i L t ++ r) := by
 have hn := fun r => tnow_eq hi hw r
 have hb := fun r => tbad_eq (L := L) hi t r
 have hwc : w.cells = [iw w.kind, .str w.s, iw w.n, iw w.a] := rfl
 rw [hwc] at hn
 unfold TS.sees
 rw [eval_M rfl rfl t_rt_is rfl]
 by_cases h0 : t.fe = 0
 ·by_cases h1 : w.s = k
  ·by_cases h2 : w.kind = 4
   ·simp [c_rt_is, hn, hb, h0, h1, h2, Ht_len]
   ·simp [c_rt_is, hn, hb, h0, h1, h2, Ht_len]
  ·simp [c_rt_is, hn, hb, h0, h1, Ht_len]
 ·simp [c_rt_is, hn, hb, h0, Ht_len]
theorem ar_next (n : Nat) (h : n ≤ 1000000) : arith .add .i64 (n : Int) 1 = some (.int .i64 ((n : Int) + 1)) := ar_suc n h
theorem tnext_eq (hi : i < HB.length) (t : TS) (r : Heap) : (Ht HB i L t ++ r).set i (some [V.sl 4 (wrows L), .int .i64 ((t.at_ : Int) + 1), iw t.st, iw t.fe, iw t.fa]) = Ht HB i L t.next ++ r := by
 have := sHt (L := L) hi t t.next r
 unfold TS.cells at this
 exact this
theorem ttake_eq (hi : i < HB.length) {t : TS} {w : Wx} (hw : L[t.at_]? = some w) (hL : L.length ≤ 10000) (k : List UInt8) (r : Heap) : eval tbl noExt n_rt_take [.ptr i 0, .str k] (Ht HB i L t ++ r) = some (.bool (t.sees w k), Ht HB i L (if t.sees w k then t.next else t) ++ r) := by
 have hlt : t.at_ < L.length := (List.getElem?_eq_some_iff.1 hw).1
 have gI := fun r => gHt (L := L) hi t r
 unfold TS.cells at gI
 have hs := fun r => tis_eq hi hw k r
 have hn := fun r => tnext_eq (L := L) hi t r
 have A := ar_next t.at_ (by omega)
 rw [eval_M rfl rfl t_rt_take rfl]
 cases hb : t.sees w k with
 | true =>
  rw [hb] at hs
  simp [-arith, c_rt_take, gI, hs, hn, A, Ht_len]
 | false =>
  rw [hb] at hs
  simp [-arith, c_rt_take, gI, hs, Ht_len]
theorem tneed_eq (hi : i < HB.length) {t : TS} {w : Wx} (hw : L[t.at_]? = some w) (hL : L.length ≤ 10000) (k : List UInt8) (r : Heap) : eval tbl noExt n_rt_need [.ptr i 0, .str k] (Ht HB i L t ++ r) = some (.tup [], Ht HB i L (if t.sees w k then t.next else t.fail 12 w) ++ r) := by
 have ht := fun r => ttake_eq hi hw hL k r
 have hn := fun r => tnow_eq hi hw r
 have hf := fun r => tfail_eq (L := L) hi t 12 w r
 have hwc : w.cells = [iw w.kind, .str w.s, iw w.n, iw w.a] := rfl
 rw [hwc] at hn hf
 rw [eval_M rfl rfl t_rt_need rfl]
 cases hb : t.sees w k with
 | true =>
  rw [hb] at ht
  simp at ht
  simp [c_rt_need, ht, Ht_len]
 | false =>
  rw [hb] at ht
  simp at ht
  simp [c_rt_need, ht, hn, hf, Ht_len]
def TS.kind (t : TS) (w : Wx) (k : Int) : Wx × TS := if t.fe = 0 then (if w.kind = k then (w, t.next) else (zw, t.fail 12 w)) else (zw, t)
theorem tkind_eq (hi : i < HB.length) {t : TS} {w : Wx} (hw : L[t.at_]? = some w) (hL : L.length ≤ 10000) (k : Int) (r : Heap) : eval tbl noExt n_rt_kind [.ptr i 0, .int .i64 k] (Ht HB i L t ++ r) = some (.agg (t.kind w k).1.cells, Ht HB i L (t.kind w k).2 ++ r) := by
 have hlt : t.at_ < L.length := (List.getElem?_eq_some_iff.1 hw).1
 have gI := fun r => gHt (L := L) hi t r
 unfold TS.cells at gI
 have hn := fun r => tnow_eq hi hw r
 have hb := fun r => tbad_eq (L := L) hi t r
 have hf := fun r => tfail_eq (L := L) hi t 12 w r
 have hb2 := fun r => tbad_eq (L := L) hi (t.fail 12 w) r
 have hnx := fun r => tnext_eq (L := L) hi t r
 have A := ar_next t.at_ (by omega)
 have hwc : w.cells = [iw w.kind, .str w.s, iw w.n, iw w.a] := rfl
 have hzc : zw.cells = [iw 0, .str [], iw 0, iw 0] := rfl
 rw [hwc] at hn hf
 unfold TS.kind
 rw [eval_M rfl rfl t_rt_kind rfl]
 by_cases h0 : t.fe = 0
 ·rw [if_pos h0]
  by_cases hk : w.kind = k
  ·rw [if_pos hk]
   simp only [h0] at gI hnx
   simp [-arith, c_rt_kind, gI, hn, hb, h0, hk, A, hnx, hwc, Ht_len]
  ·rw [if_neg hk]
   have hff : (t.fail 12 w).fe = 12 := by unfold TS.fail; rw [if_pos h0]
   rw [hff] at hb2
   simp [-arith, c_rt_kind, hn, hb2, hf, h0, hk, hzc, Ht_len]
 ·rw [if_neg h0]
  have hff : t.fail 12 w = t := by unfold TS.fail; rw [if_neg h0]
  rw [hff] at hf
  by_cases hk : w.kind = k
  ·simp [-arith, c_rt_kind, hn, hb, h0, hk, hzc, Ht_len]
  ·simp [-arith, c_rt_kind, hn, hb, hf, h0, hk, hzc, Ht_len]
end
/-! Both parsers, alike. -/
structure Alk (L : List Wx) (s : PS) (t : TS) : Prop where
 good : s.good
 lt : t.at_ < L.length
 fe : t.fe = s.fe
 fa : t.fa = s.fa
 tame : s.fe = 0 → s.fa = 0
 left : s.clean → L.drop t.at_ = s.left ∧ t.st = s.st
namespace Alk
variable {L : List Wx} {s : PS} {t : TS}
theorem clean_iff (h : Alk L s t) : s.clean ↔ t.fe = 0 := by
 rw [h.fe]; exact ⟨fun c => c.1, fun c => ⟨c, h.tame c⟩⟩
theorem word (h : Alk L s t) : ∃ w, L[t.at_]? = some w ∧ (s.clean → w = s.head) := by
 refine ⟨L[t.at_]'h.lt, List.getElem?_eq_getElem h.lt, fun hc => ?_⟩
 have h1 := (h.left hc).1
 rw [List.drop_eq_getElem_cons h.lt] at h1
 unfold PS.head
 rw [← h1]; rfl
theorem seen (h : Alk L s t) {w : Wx} (hw : s.clean → w = s.head) (k : List UInt8) : t.sees w k = (s.sees [k]).isSome := by
 unfold TS.sees PS.sees
 by_cases hc : s.clean
 ·have h0 := h.clean_iff.1 hc
  rw [hw hc, h0]
  by_cases h1 : s.head.s = k
  ·by_cases h2 : s.head.kind = 4
   ·simp [h1, h2]
   ·by_cases h3 : s.head.kind = 5 <;> simp [h1, h2, h3]
  ·simp [h1]
 ·have h0 : ¬ t.fe = 0 := fun e => hc (h.clean_iff.2 e)
  have hk := h.good.head0 (h.good.fault hc)
  simp [h0, hk]
theorem skip (h : Alk L s t) (hk : s.head.kind ≠ 0) : Alk L s.skip t.next := by
 have h2 := h.good.two hk
 have hc := h.good.tidy hk
 have hg := skip_good h.good hk
 obtain ⟨h3, h4⟩ := h.left hc
 have hl : L.length - t.at_ = s.left.length := by rw [← h3, List.length_drop]
 have e := skip_two h2
 refine ⟨hg.1, by show t.at_ + 1 < _; omega, ?_, ?_, ?_, fun _ => ⟨?_, ?_⟩⟩
 ·rw [e]; exact h.fe
 ·rw [e]; exact h.fa
 ·rw [e]; exact h.tame
 ·rw [e]; show L.drop (t.at_ + 1) = s.left.tail
  rw [← h3, List.tail_drop]
 ·rw [e]; exact h4
theorem fail (h : Alk L s t) {e : Int} (he : e ≠ 0) (w : Wx) : Alk L (s.fail e w) (t.fail e w) := by
 refine ⟨(fail_to h.good he w).good, ?_, ?_, ?_, ?_, fun hc => absurd hc (fail_dirty he w)⟩
 ·unfold TS.fail; split
  ·exact h.lt
  ·exact h.lt
 ·unfold TS.fail PS.fail
  by_cases hc : s.clean
  ·rw [if_pos (h.clean_iff.1 hc), if_pos hc]
  ·rw [if_neg (fun e => hc (h.clean_iff.2 e)), if_neg hc]; exact h.fe
 ·unfold TS.fail PS.fail
  by_cases hc : s.clean
  ·simp only [if_pos (h.clean_iff.1 hc), if_pos hc]
  ·simp only [if_neg (fun e => hc (h.clean_iff.2 e)), if_neg hc]; exact h.fa
 ·unfold PS.fail
  by_cases hc : s.clean
  ·rw [if_pos hc]; exact fun x => absurd x he
  ·rw [if_neg hc, if_neg hc]; exact h.tame
theorem failh (h : Alk L s t) {e : Int} (he : e ≠ 0) {w : Wx} (hw : s.clean → w = s.head) : Alk L (s.fail e s.head) (t.fail e w) := by
 have h1 := h.fail he w
 by_cases hc : s.clean
 ·rw [hw hc] at h1 ⊢; exact h1
 ·have : s.fail e w = s.fail e s.head := by unfold PS.fail; rw [if_neg hc, if_neg hc, if_neg hc]
  rw [← this]; exact h1
theorem take (h : Alk L s t) {w : Wx} (hw : s.clean → w = s.head) (k : List UInt8) : Alk L (s.takes [k]).2 (if t.sees w k then t.next else t) := by
 rw [h.seen hw k]
 unfold PS.takes
 cases ho : s.sees [k] with
 | none => exact h
 | some u => exact h.skip (sees_kind ho).1
theorem need (h : Alk L s t) {w : Wx} (hw : s.clean → w = s.head) (k : List UInt8) : Alk L (s.wants k) (if t.sees w k then t.next else t.fail 12 w) := by
 rw [h.seen hw k]
 unfold PS.wants PS.takes
 cases ho : s.sees [k] with
 | none => exact h.failh (by omega) hw
 | some u => exact h.skip (sees_kind ho).1
theorem of (h : Alk L s t) {w : Wx} (hw : s.clean → w = s.head) {k : Int} (hk : k ≠ 0) : (t.kind w k).1 = (s.of k).1 ∧ Alk L (s.of k).2 (t.kind w k).2 := by
 unfold TS.kind PS.of
 by_cases hc : s.clean
 ·rw [if_pos (h.clean_iff.1 hc), hw hc]
  by_cases h1 : s.head.kind = k
  ·rw [if_pos h1, if_neg (by simpa using h1)]
   exact ⟨rfl, h.skip (by omega)⟩
  ·rw [if_neg h1, if_pos h1]
   exact ⟨rfl, h.fail (by omega) _⟩
 ·have h0 := h.good.head0 (h.good.fault hc)
  rw [if_neg (fun e => hc (h.clean_iff.2 e)), if_pos (by rw [h0]; exact fun e => hk e.symm)]
  refine ⟨rfl, ?_⟩
  have h1 := h.fail (show (12 : Int) ≠ 0 by omega) s.head
  have h2 : t.fail 12 s.head = t := by unfold TS.fail; rw [if_neg (fun e => hc (h.clean_iff.2 e))]
  rwa [h2] at h1
end Alk
set_option linter.unusedVariables false
set_option linter.unusedSimpArgs false
set_option maxHeartbeats 4000000
set_option maxRecDepth 10000
open PS
section
variable {HB : Heap} {i : Nat} {L : List Wx}
theorem qGe (s : TS) (r T : Heap) (a b z : Option (List V)) : (Ht HB i L s ++ (r ++ a :: b :: (T ++ [z])))[HB.length + (r.length + (T.length + 1 + 1))]? = some z := by
 rw [List.getElem?_append_right (by rw [Ht_len]; omega), Ht_len, List.getElem?_append_right (by omega)]
 have : HB.length + (r.length + (T.length + 1 + 1)) - HB.length - r.length = T.length + 2 := by omega
 rw [this]
 show (T ++ [z])[T.length]? = some z
 simp
theorem qSe (s : TS) (r T : Heap) (a b z u : Option (List V)) : (Ht HB i L s ++ (r ++ a :: b :: (T ++ [z]))).set (HB.length + (r.length + (T.length + 1 + 1))) u = Ht HB i L s ++ (r ++ a :: b :: (T ++ [u])) := by
 rw [List.set_append_right _ _ (by rw [Ht_len]; omega), Ht_len, List.set_append_right _ _ (by omega)]
 have : HB.length + (r.length + (T.length + 1 + 1)) - HB.length - r.length = T.length + 2 := by omega
 rw [this]
 show Ht HB i L s ++ (r ++ a :: b :: (T ++ [z]).set T.length u) = _
 simp
end
theorem two_eq (op : Int) (a b : Ex) : eval tbl noExt n_r17_two [.int .i64 op, .agg a.cells, .agg b.cells] [] = some (.agg (Ex.mk op 0 [] [a, b]).cells, []) := by
 obtain ⟨ao, an, at', al⟩ := a
 obtain ⟨bo, bn, bt, bl⟩ := b
 have hr : Ex.rows [Ex.mk ao an at' al, Ex.mk bo bn bt bl] = [(Ex.mk ao an at' al).cells, (Ex.mk bo bn bt bl).cells] := rfl
 simp only [Ex.cells_mk, hr]
 rw [eval_M rfl rfl t_r17_two rfl]
 simp [c_r17_two]
namespace Alk
variable {L : List Wx} {s : PS} {t : TS}
/-- A fault stays. -/
theorem stay (h : Alk L s t) (hc : ¬ s.clean) {e : Int} (he : e ≠ 0) (w : Wx) : Alk L (s.fail e w) t := by
 have h1 := h.fail he w
 have h2 : t.fail e w = t := by unfold TS.fail; rw [if_neg (fun e => hc (h.clean_iff.2 e))]
 rwa [h2] at h1
theorem need_step (h : Alk L s t) (hL : L.length ≤ 10000) (k : List UInt8) {HB : Heap} {i : Nat} (hi : i < HB.length) :
  ∃ t', (∀ r, eval tbl noExt n_rt_need [.ptr i 0, .str k] (Ht HB i L t ++ r) = some (.tup [], Ht HB i L t' ++ r)) ∧ Alk L (s.wants k) t' ∧ t.at_ ≤ t'.at_ := by
 obtain ⟨w, hw, hwh⟩ := h.word
 refine ⟨_, fun r => tneed_eq hi hw hL k r, h.need hwh k, ?_⟩
 split
 ·exact Nat.le_succ _
 ·unfold TS.fail; split <;> exact Nat.le_refl _
theorem take_step (h : Alk L s t) (hL : L.length ≤ 10000) (k : List UInt8) {HB : Heap} {i : Nat} (hi : i < HB.length) :
  (∀ r, eval tbl noExt n_rt_take [.ptr i 0, .str k] (Ht HB i L t ++ r) = some (.bool (s.sees [k]).isSome, Ht HB i L (if (s.sees [k]).isSome then t.next else t) ++ r)) ∧ Alk L (s.takes [k]).2 (if (s.sees [k]).isSome then t.next else t) := by
 obtain ⟨w, hw, hwh⟩ := h.word
 have h1 := fun r => ttake_eq hi hw hL k r
 have h2 := h.take hwh k
 rw [h.seen hwh k] at h2
 simp only [h.seen hwh k] at h1
 exact ⟨h1, h2⟩
theorem is_step (h : Alk L s t) (k : List UInt8) {HB : Heap} {i : Nat} (hi : i < HB.length) :
  ∀ r, eval tbl noExt n_rt_is [.ptr i 0, .str k] (Ht HB i L t ++ r) = some (.bool (s.sees [k]).isSome, Ht HB i L t ++ r) := by
 obtain ⟨w, hw, hwh⟩ := h.word
 intro r
 rw [tis_eq hi hw k r, h.seen hwh k]
theorem kind_step (h : Alk L s t) (hL : L.length ≤ 10000) {k : Int} (hk : k ≠ 0) {HB : Heap} {i : Nat} (hi : i < HB.length) :
  ∃ t', (∀ r, eval tbl noExt n_rt_kind [.ptr i 0, .int .i64 k] (Ht HB i L t ++ r) = some (.agg (s.of k).1.cells, Ht HB i L t' ++ r)) ∧ Alk L (s.of k).2 t' ∧ t.at_ ≤ t'.at_ := by
 obtain ⟨w, hw, hwh⟩ := h.word
 obtain ⟨h1, h2⟩ := h.of hwh hk
 refine ⟨_, fun r => by rw [tkind_eq hi hw hL k r, h1], h2, ?_⟩
 unfold TS.kind
 split
 ·split
  ·exact Nat.le_succ _
  ·unfold TS.fail; split <;> exact Nat.le_refl _
 ·exact Nat.le_refl _
end Alk
/-- What a function of the document's parser answers, beside the program's. -/
def SpecR (L : List Wx) (fn : Nat) (f : PF) (len : Nat) : Prop := ∀ (HB : Heap) (i : Nat), i < HB.length → ∀ (s : PS) (t : TS), Alk L s t → s.left.length ≤ len →
 ∃ x t', (∀ r, eval tbl noExt fn [.ptr i 0] (Ht HB i L t ++ r) = some (.agg (Ex.cells x), Ht HB i L t' ++ r)) ∧ Alk L (f s).2 t' ∧ ((f s).2.clean → x = (f s).1) ∧ t.at_ ≤ t'.at_ ∧ x.size + 2 * (L.length - t'.at_) ≤ 2 * (L.length - t.at_) + 1
theorem part_bad {ex : PF} {s : PS} (hs : s.good) (hc : ¬ s.clean) : partP ex s = (zx, s.fail 12 s.head) := by
 have h0 := hs.head0 (hs.fault hc)
 have hn : ∀ l, s.sees l = none := fun l => by
  unfold PS.sees
  rw [if_neg (by rw [h0]; simp)]
 have ht : ∀ l, s.takes l = (none, s) := fun l => by unfold PS.takes; rw [hn]
 unfold partP
 rw [if_neg (by omega), if_neg (by omega), if_neg (by omega), hn, if_neg (by simp), ht]
/-- In parentheses. -/
theorem inner_step {L : List Wx} (hL : L.length ≤ 10000) {ex : PF} {len : Nat} (hto : Goes' ex) (hex : SpecR L n_rt_expr ex len) {s : PS} {t : TS} (h : Alk L s t) (hl : (s.wants gLp).left.length ≤ len) {HB : Heap} {i : Nat} (hi : i < HB.length) :
  ∃ x t1 t2 t3, (∀ r, eval tbl noExt n_rt_need [.ptr i 0, .str gLp] (Ht HB i L t ++ r) = some (.tup [], Ht HB i L t1 ++ r)) ∧
   (∀ r, eval tbl noExt n_rt_expr [.ptr i 0] (Ht HB i L t1 ++ r) = some (.agg (Ex.cells x), Ht HB i L t2 ++ r)) ∧
   (∀ r, eval tbl noExt n_rt_need [.ptr i 0, .str gRp] (Ht HB i L t2 ++ r) = some (.tup [], Ht HB i L t3 ++ r)) ∧
   Alk L (innerP ex s).2 t3 ∧ ((innerP ex s).2.clean → x = (innerP ex s).1) ∧ t.at_ ≤ t3.at_ ∧ x.size + 2 * (L.length - t3.at_) ≤ 2 * (L.length - t.at_) + 1 := by
 obtain ⟨t1, e1, a1, l1⟩ := h.need_step hL gLp hi
 obtain ⟨x, t2, e2, a2, v2, l2, z2⟩ := hex HB i hi _ _ a1 hl
 obtain ⟨t3, e3, a3, l3⟩ := a2.need_step hL gRp hi
 refine ⟨x, t1, t2, t3, e1, e2, e3, a3, fun hc => ?_, by omega, by omega⟩
 exact v2 ((wants_to a2.good gRp).clean hc)
theorem rpart_eq {L : List Wx} (hL : L.length ≤ 10000) {ex : PF} {len : Nat} (hto : Goes' ex) (hex : SpecR L n_rt_expr ex len) : SpecR L n_rt_part (partP ex) (len + 1) := by
 intro HB i hi s t hA hl
 obtain ⟨w, hw, hwh⟩ := hA.word
 have hn := fun r => tnow_eq hi hw r
 have hb := fun r => tbad_eq (L := L) hi t r
 have hwc : w.cells = [iw w.kind, .str w.s, iw w.n, iw w.a] := rfl
 have hr0 : Ex.rows [] = [] := rfl
 have hzc : zx.cells = [.int .i64 0, .int .i64 0, .str [], .sl 4 []] := rfl
 rw [hwc] at hn
 have hlt := hA.lt
 by_cases hc : s.clean
 case neg =>
  have h0 : ¬ t.fe = 0 := fun e => hc (hA.clean_iff.2 e)
  rw [part_bad hA.good hc]
  refine ⟨zx, t, fun r => ?_, hA.stay hc (by omega) _, fun _ => rfl, Nat.le_refl _, by simp only [zx, Ex.size, Ex.sizes]; omega⟩
  rw [hzc]
  rw [eval_M rfl rfl t_rt_part rfl]
  simp [c_rt_part, hn, hb, h0, Ht_len]
 case pos =>
  have h0 := hA.clean_iff.1 hc
  have hws := hwh hc
  have gI := fun r => gHt (L := L) hi t r
  unfold TS.cells at gI
  have hnx := fun r => tnext_eq (L := L) hi t r
  have A := ar_next t.at_ (by omega)
  simp only [h0] at gI hnx hb
  have ht := fun k r => ttake_eq hi hw hL k r
  have hf := fun r => tfail_eq (L := L) hi t 12 w r
  rw [hwc] at hf
  unfold partP
  rw [← hws]
  by_cases k2 : w.kind = 2
  ·rw [if_pos k2]
   refine ⟨.mk 1 w.n [] [], t.next, fun r => ?_, hA.skip (by rw [← hws]; omega), fun _ => rfl, Nat.le_succ _, by simp only [TS.next, Ex.size, Ex.sizes]; omega⟩
   simp only [Ex.cells_mk, hr0]
   rw [eval_M rfl rfl t_rt_part rfl]
   simp [-arith, c_rt_part, hn, hb, h0, k2, gI, A, hnx, Ht_len]
  rw [if_neg k2]
  by_cases k3 : w.kind = 3
  ·rw [if_pos k3]
   refine ⟨.mk 2 0 w.s [], t.next, fun r => ?_, hA.skip (by rw [← hws]; omega), fun _ => rfl, Nat.le_succ _, by simp only [TS.next, Ex.size, Ex.sizes]; omega⟩
   simp only [Ex.cells_mk, hr0]
   rw [eval_M rfl rfl t_rt_part rfl]
   simp [-arith, c_rt_part, hn, hb, h0, k3, gI, A, hnx, Ht_len]
  rw [if_neg k3]
  by_cases k1 : w.kind = 1
  ·rw [if_pos k1]
   refine ⟨.mk 4 0 w.s [], t.next, fun r => ?_, hA.skip (by rw [← hws]; omega), fun _ => rfl, Nat.le_succ _, by simp only [TS.next, Ex.size, Ex.sizes]; omega⟩
   simp only [Ex.cells_mk, hr0]
   rw [eval_M rfl rfl t_rt_part rfl]
   simp [-arith, c_rt_part, hn, hb, h0, k1, gI, A, hnx, Ht_len]
  rw [if_neg k1]
  by_cases k45 : w.kind = 4 ∨ w.kind = 5
  case neg =>
   have hno : ∀ k, t.sees w k = false := fun k => by
    have n4 : ¬ w.kind = 4 := fun h => k45 (.inl h)
    have n5 : ¬ w.kind = 5 := fun h => k45 (.inr h)
    simp [TS.sees, n4, n5]
   have hsn : ∀ l, s.sees l = none := fun l => by
    unfold PS.sees
    rw [if_neg]
    rintro ⟨h1, _⟩
    rw [← hws] at h1
    exact k45 h1
   have htn : ∀ l, s.takes l = (none, s) := fun l => by unfold PS.takes; rw [hsn]
   rw [hsn, if_neg (by simp), htn]
   refine ⟨zx, t.fail 12 w, fun r => ?_, hA.fail (by omega) _, fun _ => rfl, ?_, ?_⟩
   ·simp only [hno] at ht
    simp at ht
    rw [hzc]
    rw [eval_M rfl rfl t_rt_part rfl]
    simp [-arith, c_rt_part, hn, hb, h0, k1, k2, k3, ht, hf, Ht_len]
   ·unfold TS.fail; split <;> exact Nat.le_refl _
   ·have : (t.fail 12 w).at_ = t.at_ := by unfold TS.fail; split <;> rfl
    rw [this]; simp only [zx, Ex.size, Ex.sizes]; omega
  case pos =>
   have hse : ∀ k, t.sees w k = decide (w.s = k) := fun k => by
    rcases k45 with h | h <;> simp [TS.sees, h0, h]
   have hsp : ∀ l, s.sees l = if w.s ∈ l then some w.s else none := fun l => by
    unfold PS.sees
    rw [← hws]
    by_cases h : w.s ∈ l
    ·rw [if_pos ⟨k45, h⟩, if_pos h]
    ·rw [if_neg (fun h1 => h h1.2), if_neg h]
   have hk0 : s.head.kind ≠ 0 := by rw [← hws]; rcases k45 with h | h <;> omega
   have hsk := hA.skip hk0
   have hg2 := skip_good hA.good hk0
   have htk : ∀ l, s.takes l = if w.s ∈ l then (some w.s, s.skip) else (none, s) := fun l => by
    unfold PS.takes
    by_cases h : w.s ∈ l
    ·rw [hsp, if_pos h, if_pos h]
    ·rw [hsp, if_neg h, if_neg h]
   simp only [hse] at ht
   by_cases s1 : w.s = gLp
   ·rw [hsp, s1, if_pos (by simp)]
    have hw1 : s.wants gLp = s.skip := by unfold PS.wants; rw [htk, s1, if_pos (by simp)]
    unfold innerP
    rw [hw1]
    obtain ⟨x, t2, e2, a2, v2, l2, z2⟩ := hex HB i hi _ _ hsk (by omega)
    obtain ⟨t3, e3, a3, l3⟩ := a2.need_step hL gRp hi
    obtain ⟨xo, xn, xt, xl⟩ := x
    have ln : t.next.at_ = t.at_ + 1 := rfl
    have lt2 := a2.lt
    refine ⟨.mk xo xn xt xl, t3, fun r => ?_, a3, fun hc => v2 ((wants_to a2.good gRp).clean hc), by omega, by omega⟩
    simp only [Ex.cells_mk] at e2 ⊢
    rw [s1] at ht
    rw [eval_M rfl rfl t_rt_part rfl]
    simp [-arith, c_rt_part, hn, hb, h0, k1, k2, k3, ht, e2, e3, Ht_len]
   rw [if_neg (show ¬ (s.sees [gLp]).isSome = true by rw [hsp, if_neg (by simpa using s1)]; simp)]
   by_cases s2 : w.s = kTrue
   ·rw [htk, s2, if_pos (by simp)]
    refine ⟨.mk 3 1 [] [], t.next, fun r => ?_, by dsimp only; rw [if_pos rfl]; exact hsk, fun _ => by dsimp only; rw [if_pos rfl], Nat.le_succ _, by simp only [TS.next, Ex.size, Ex.sizes]; omega⟩
    simp only [Ex.cells_mk, hr0]
    rw [s2] at ht
    rw [eval_M rfl rfl t_rt_part rfl]
    simp [-arith, c_rt_part, hn, hb, h0, k1, k2, k3, ht, Ht_len]
   by_cases s3 : w.s = kFalse
   ·rw [htk, s3, if_pos (by simp)]
    refine ⟨.mk 3 0 [] [], t.next, fun r => ?_, by dsimp only; rw [if_neg (by decide), if_pos rfl]; exact hsk, fun _ => by dsimp only; rw [if_neg (by decide), if_pos rfl], Nat.le_succ _, by simp only [TS.next, Ex.size, Ex.sizes]; omega⟩
    simp only [Ex.cells_mk, hr0]
    rw [s3] at ht
    rw [eval_M rfl rfl t_rt_part rfl]
    simp [-arith, c_rt_part, hn, hb, h0, k1, k2, k3, ht, Ht_len]
   by_cases s4 : w.s = kExists ∨ w.s = kSize ∨ w.s = kRead
   ·have hmem : w.s ∈ [kTrue, kFalse, kExists, kSize, kRead] := by rcases s4 with h | h | h <;> simp [h]
    rw [htk, if_pos hmem]
    dsimp only
    rw [if_neg s2, if_neg s3]
    have hwl : (s.skip.wants gLp).left.length ≤ len := by
     have := (wants_to hg2.1 gLp).len
     omega
    obtain ⟨x, t1, t2, t3, e1, e2, e3, a3, v3, l3, z3⟩ := inner_step hL hto hex hsk hwl hi
    obtain ⟨xo, xn, xt, xl⟩ := x
    have ln : t.next.at_ = t.at_ + 1 := rfl
    have lt3 := a3.lt
    have hr1 : Ex.rows [Ex.mk xo xn xt xl] = [(Ex.mk xo xn xt xl).cells] := rfl
    refine ⟨.mk (opOf w.s) 0 [] [.mk xo xn xt xl], t3, fun r => ?_, a3, fun hc => by rw [v3 hc], by omega, ?_⟩
    ·simp only [Ex.cells_mk, hr1] at e2 ⊢
     rcases s4 with h | h | h
     all_goals
      rw [h] at ht ⊢
      rw [eval_M rfl rfl t_rt_part rfl]
      simp [-arith, c_rt_part, opOf, hn, hb, h0, k1, k2, k3, ht, e1, e2, e3, Ht_len]
    ·simp only [Ex.size, Ex.sizes] at z3 ⊢; omega
   ·have s5 : ¬ w.s = kExists := fun h => s4 (.inl h)
    have s6 : ¬ w.s = kSize := fun h => s4 (.inr (.inl h))
    have s7 : ¬ w.s = kRead := fun h => s4 (.inr (.inr h))
    rw [htk, if_neg (by simp [s2, s3, s5, s6, s7])]
    refine ⟨zx, t.fail 12 w, fun r => ?_, by dsimp only; exact hA.fail (by omega) _, fun _ => rfl, ?_, ?_⟩
    ·rw [hzc]
     rw [eval_M rfl rfl t_rt_part rfl]
     simp [-arith, c_rt_part, hn, hb, h0, k1, k2, k3, ht, hf, s1, s2, s3, s5, s6, s7, Ht_len]
    ·unfold TS.fail; split <;> exact Nat.le_refl _
    ·have : (t.fail 12 w).at_ = t.at_ := by unfold TS.fail; split <;> rfl
     rw [this]; simp only [zx, Ex.size, Ex.sizes]; omega
set_option linter.unusedVariables false
set_option linter.unusedSimpArgs false
set_option maxHeartbeats 4000000
set_option maxRecDepth 10000
open PS
theorem sees_two {s : PS} {a b : List UInt8} : s.sees [a, b] = if (s.sees [a]).isSome then some a else if (s.sees [b]).isSome then some b else none := by
 unfold PS.sees
 by_cases h : s.head.kind = 4 ∨ s.head.kind = 5
 ·by_cases h1 : s.head.s = a
  ·simp [h, h1]
  ·by_cases h2 : s.head.s = b
   ·simp [h, h1, h2]
   ·simp [h, h1, h2]
 ·simp [h]
theorem sees_one {s : PS} {a : List UInt8} : s.sees [a] = if (s.sees [a]).isSome then some a else none := by
 unfold PS.sees
 by_cases h : s.head.kind = 4 ∨ s.head.kind = 5
 ·by_cases h1 : s.head.s = a
  ·simp [h, h1]
  ·simp [h, h1]
 ·simp [h]
theorem takes_of {s : PS} {l : List (List UInt8)} {o : Option (List UInt8)} (h : s.sees l = o) : s.takes l = (o, if o.isSome then s.skip else s) := by
 unfold PS.takes
 rw [h]
 cases o <;> rfl
abbrev z4 : Option (List V) := some [.int .i64 0, .int .i64 0, .str [], .own 4 []]
section
variable {L : List Wx} (hL : L.length ≤ 10000) {HB : Heap} {i : Nat} (hi : i < HB.length)
include hL hi
theorem rsum_loop {ex : PF} {len : Nat} (hto : Goes' ex) (hp : SpecR L n_rt_part (partP ex) len) :
  ∀ (n : Nat) (s : PS) (t : TS) (x xP : Ex), Alk L s t → s.left.length ≤ len → s.left.length ≤ n + 1 → (s.clean → x = xP) →
   ∃ y t', (∀ (r T : Heap) (φ : Fr), Fr.get φ 0 = .ptr i 0 → Fr.get φ 2 = .ptr (HB.length + r.length) 0 → Fr.get φ 3 = .ptr (HB.length + (r.length + 1)) 0 →
    M (eval tbl noExt) [.code l_rt_sum_0, .blk 0, .code r_rt_sum_0, .fin [.cell 2 (some 4)] (HB.length + r.length)] φ (Ht HB i L t ++ (r ++ z4 :: some (Ex.cells x) :: T)) = some (.agg (Ex.cells y), Ht HB i L t' ++ r)) ∧
   Alk L (chainP (partP ex) [gPl, gMi] n xP s).2 t' ∧ ((chainP (partP ex) [gPl, gMi] n xP s).2.clean → y = (chainP (partP ex) [gPl, gMi] n xP s).1) ∧ t.at_ ≤ t'.at_ ∧ y.size + 2 * (L.length - t'.at_) ≤ x.size + 2 * (L.length - t.at_) := by
 intro n
 induction n with
 | zero =>
  intro s t x xP hA hl hn hx
  have i1 := hA.is_step gPl hi
  have i2 := hA.is_step gMi hi
  have hno : ∀ l, s.sees l = none := fun l => by
   cases h : s.sees l with
   | none => rfl
   | some u => have := hA.good.two (sees_kind h).1; omega
  simp only [hno] at i1 i2
  obtain ⟨xo, xn, xt, xl⟩ := x
  refine ⟨.mk xo xn xt xl, t, fun r T φ h0 h2 h3 => ?_, hA, hx, Nat.le_refl _, Nat.le_refl _⟩
  simp only [Ex.cells_mk]
  rw [l_rt_sum_0, M_loop]
  simp at i1 i2
  simp [b_rt_sum_0, r_rt_sum_0, h0, h2, h3, i1, i2, Ht_len]
 | succ n ih =>
  intro s t x xP hA hl hn hx
  have i1 := hA.is_step gPl hi
  have i2 := hA.is_step gMi hi
  have hs2 := sees_two (s := s) (a := gPl) (b := gMi)
  unfold chainP
  cases b1 : (s.sees [gPl]).isSome with
  | false =>
   cases b2 : (s.sees [gMi]).isSome with
   | false =>
    rw [b1, b2] at hs2
    rw [b1] at i1
    rw [b2] at i2
    rw [takes_of hs2]
    obtain ⟨xo, xn, xt, xl⟩ := x
    refine ⟨.mk xo xn xt xl, t, fun r T φ h0 h2 h3 => ?_, hA, hx, Nat.le_refl _, Nat.le_refl _⟩
    simp only [Ex.cells_mk]
    rw [l_rt_sum_0, M_loop]
    simp [b_rt_sum_0, r_rt_sum_0, h0, h2, h3, i1, i2, Ht_len]
   | true =>
    rw [b1, b2] at hs2
    rw [b1] at i1
    rw [b2] at i2
    have hk0 : s.head.kind ≠ 0 := (sees_kind hs2).1
    have hc := hA.good.tidy hk0
    have hsk := hA.skip hk0
    have hg2 := skip_good hA.good hk0
    have ln : t.next.at_ = t.at_ + 1 := rfl
    have hlt := hA.lt
    rw [takes_of hs2]
    obtain ⟨y1, t1, e1, a1, v1, l1, z1⟩ := hp HB i hi _ _ hsk (by omega)
    have gp := partP_to hto s.skip hg2.1
    obtain ⟨y, t', e2, a2, v2, l2, z2⟩ := ih _ t1 (.mk 10 0 [] [x, y1]) (.mk 10 0 [] [xP, (partP ex s.skip).1]) a1 (by have := gp.len; omega) (by have := gp.len; omega) (fun h => by rw [v1 h, hx hc])
    have gI := fun r => gHt (L := L) hi t r
    unfold TS.cells at gI
    have hnx := fun r => tnext_eq (L := L) hi t r
    have A := ar_next t.at_ (by omega)
    have h2w := two_eq 10 x y1
    have lt1 := a1.lt
    refine ⟨y, t', fun r T φ h0 h2 h3 => ?_, a2, v2, by omega, by simp only [Ex.size, Ex.sizes] at z2; omega⟩
    have e3 := fun φ => e2 r (T ++ [some (Ex.cells y1)]) φ
    obtain ⟨xo, xn, xt, xl⟩ := x
    obtain ⟨yo, yn, yt, yl⟩ := y1
    have hr2 : Ex.rows [Ex.mk xo xn xt xl, Ex.mk yo yn yt yl] = [(Ex.mk xo xn xt xl).cells, (Ex.mk yo yn yt yl).cells] := rfl
    simp only [Ex.cells_mk, hr2] at e1 e3 h2w ⊢
    rw [l_rt_sum_0, M_loop, ← l_rt_sum_0]
    simp [-arith, b_rt_sum_0, h0, h2, h3, i1, i2, gI, A, hnx, e1, h2w, Ht_len, qGe, qSe]
    refine e3 _ ?_ ?_ ?_ <;> simp [h0, h2, h3]
  | true =>
   rw [b1] at hs2 i1
   have b2 : (s.sees [gMi]).isSome = false := by
    cases b2 : (s.sees [gMi]).isSome with
    | false => rfl
    | true =>
     obtain ⟨u, hu⟩ := Option.isSome_iff_exists.1 b1
     obtain ⟨v, hv⟩ := Option.isSome_iff_exists.1 b2
     have h1 := (sees_kind hu).2
     have h2 := (sees_kind hv).2
     have h3 := h1.2
     have h4 := h2.2
     rw [h1.1] at h3
     rw [h2.1] at h4
     simp only [List.mem_cons, List.not_mem_nil, or_false] at h3 h4
     rw [h3] at h4
     exact absurd h4 (by decide)
   rw [b2] at i2
   have hk0 : s.head.kind ≠ 0 := (sees_kind hs2).1
   have hc := hA.good.tidy hk0
   have hsk := hA.skip hk0
   have hg2 := skip_good hA.good hk0
   have ln : t.next.at_ = t.at_ + 1 := rfl
   have hlt := hA.lt
   rw [takes_of hs2]
   obtain ⟨y1, t1, e1, a1, v1, l1, z1⟩ := hp HB i hi _ _ hsk (by omega)
   have gp := partP_to hto s.skip hg2.1
   obtain ⟨y, t', e2, a2, v2, l2, z2⟩ := ih _ t1 (.mk 9 0 [] [x, y1]) (.mk 9 0 [] [xP, (partP ex s.skip).1]) a1 (by have := gp.len; omega) (by have := gp.len; omega) (fun h => by rw [v1 h, hx hc])
   have gI := fun r => gHt (L := L) hi t r
   unfold TS.cells at gI
   have hnx := fun r => tnext_eq (L := L) hi t r
   have A := ar_next t.at_ (by omega)
   have h2w := two_eq 9 x y1
   have lt1 := a1.lt
   refine ⟨y, t', fun r T φ h0 h2 h3 => ?_, a2, v2, by omega, by simp only [Ex.size, Ex.sizes] at z2; omega⟩
   have e3 := fun φ => e2 r (T ++ [some (Ex.cells y1)]) φ
   obtain ⟨xo, xn, xt, xl⟩ := x
   obtain ⟨yo, yn, yt, yl⟩ := y1
   have hr2 : Ex.rows [Ex.mk xo xn xt xl, Ex.mk yo yn yt yl] = [(Ex.mk xo xn xt xl).cells, (Ex.mk yo yn yt yl).cells] := rfl
   simp only [Ex.cells_mk, hr2] at e1 e3 h2w ⊢
   rw [l_rt_sum_0, M_loop, ← l_rt_sum_0]
   simp [-arith, b_rt_sum_0, h0, h2, h3, i1, i2, gI, A, hnx, e1, h2w, Ht_len, qGe, qSe]
   refine e3 _ ?_ ?_ ?_ <;> simp [h0, h2, h3]
theorem rsum_eq {ex : PF} {len : Nat} (hto : Goes' ex) (hp : SpecR L n_rt_part (partP ex) len) (hlen : len ≤ 4097) {s : PS} {t : TS} (hA : Alk L s t) (hl : s.left.length ≤ len) :
  ∃ x t', (∀ r, eval tbl noExt n_rt_sum [.ptr i 0] (Ht HB i L t ++ r) = some (.agg (Ex.cells x), Ht HB i L t' ++ r)) ∧ Alk L (sumP ex s).2 t' ∧ ((sumP ex s).2.clean → x = (sumP ex s).1) ∧ t.at_ ≤ t'.at_ ∧ x.size + 2 * (L.length - t'.at_) ≤ 2 * (L.length - t.at_) + 1 := by
 obtain ⟨x, t1, e1, a1, v1, l1, z1⟩ := hp HB i hi s t hA hl
 have g1 := partP_to hto s hA.good
 obtain ⟨y, t2, e2, a2, v2, l2, z2⟩ := rsum_loop hL hi hto hp 4096 _ t1 x (partP ex s).1 a1 (Nat.le_trans g1.len hl) (by have := g1.len; omega) v1
 refine ⟨y, t2, fun r => ?_, a2, v2, by omega, by omega⟩
 obtain ⟨xo, xn, xt, xl⟩ := x
 simp only [Ex.cells_mk] at e1 e2
 rw [eval_M rfl rfl t_rt_sum rfl]
 simp [c_rt_sum, e1, Ht_len]
 exact e2 r [] _ (by simp) (by simp) (by simp)
end
section
variable {L : List Wx} (hL : L.length ≤ 10000) {HB : Heap} {i : Nat} (hi : i < HB.length)
include hL hi
theorem rboth_loop {part : PF} {len : Nat} (hto : Goes' part) (hp : SpecR L n_rt_not part len) :
  ∀ (n : Nat) (s : PS) (t : TS) (x xP : Ex), Alk L s t → s.left.length ≤ len → s.left.length ≤ n + 1 → (s.clean → x = xP) →
   ∃ y t', (∀ (r T : Heap) (φ : Fr), Fr.get φ 0 = .ptr i 0 → Fr.get φ 2 = .ptr (HB.length + r.length) 0 → Fr.get φ 3 = .ptr (HB.length + (r.length + 1)) 0 →
    M (eval tbl noExt) [.code l_rt_both_0, .blk 0, .code r_rt_both_0, .fin [.cell 2 (some 4)] (HB.length + r.length)] φ (Ht HB i L t ++ (r ++ z4 :: some (Ex.cells x) :: T)) = some (.agg (Ex.cells y), Ht HB i L t' ++ r)) ∧
   Alk L (chainP part [kAnd] n xP s).2 t' ∧ ((chainP part [kAnd] n xP s).2.clean → y = (chainP part [kAnd] n xP s).1) ∧ t.at_ ≤ t'.at_ ∧ y.size + 2 * (L.length - t'.at_) ≤ x.size + 2 * (L.length - t.at_) := by
 intro n
 induction n with
 | zero =>
  intro s t x xP hA hl hn hx
  obtain ⟨i1, _⟩ := hA.take_step hL kAnd hi
  have hno : ∀ l, s.sees l = none := fun l => by
   cases h : s.sees l with
   | none => rfl
   | some u => have := hA.good.two (sees_kind h).1; omega
  simp only [hno] at i1
  simp at i1
  obtain ⟨xo, xn, xt, xl⟩ := x
  refine ⟨.mk xo xn xt xl, t, fun r T φ h0 h2 h3 => ?_, hA, hx, Nat.le_refl _, Nat.le_refl _⟩
  simp only [Ex.cells_mk]
  rw [l_rt_both_0, M_loop]
  simp [b_rt_both_0, r_rt_both_0, h0, h2, h3, i1, Ht_len]
 | succ n ih =>
  intro s t x xP hA hl hn hx
  obtain ⟨i1, _⟩ := hA.take_step hL kAnd hi
  have hs2 := sees_one (s := s) (a := kAnd)
  unfold chainP
  cases b1 : (s.sees [kAnd]).isSome with
  | false =>
   rw [b1] at hs2
   simp only [b1] at i1
   simp at i1
   rw [takes_of hs2]
   obtain ⟨xo, xn, xt, xl⟩ := x
   refine ⟨.mk xo xn xt xl, t, fun r T φ h0 h2 h3 => ?_, hA, hx, Nat.le_refl _, Nat.le_refl _⟩
   simp only [Ex.cells_mk]
   rw [l_rt_both_0, M_loop]
   simp [b_rt_both_0, r_rt_both_0, h0, h2, h3, i1, Ht_len]
  | true =>
   rw [b1] at hs2
   simp only [b1] at i1
   simp at i1
   have hk0 : s.head.kind ≠ 0 := (sees_kind hs2).1
   have hc := hA.good.tidy hk0
   have hsk := hA.skip hk0
   have hg2 := skip_good hA.good hk0
   have ln : t.next.at_ = t.at_ + 1 := rfl
   have hlt := hA.lt
   rw [takes_of hs2]
   obtain ⟨y1, t1, e1, a1, v1, l1, z1⟩ := hp HB i hi _ _ hsk (by omega)
   have gp := hto s.skip hg2.1
   obtain ⟨y, t', e2, a2, v2, l2, z2⟩ := ih _ t1 (.mk 13 0 [] [x, y1]) (.mk 13 0 [] [xP, (part s.skip).1]) a1 (by have := gp.len; omega) (by have := gp.len; omega) (fun h => by rw [v1 h, hx hc])
   have h2w := two_eq 13 x y1
   have lt1 := a1.lt
   refine ⟨y, t', fun r T φ h0 h2 h3 => ?_, a2, v2, by omega, by simp only [Ex.size, Ex.sizes] at z2; omega⟩
   have e3 := fun φ => e2 r (T ++ [some (Ex.cells y1)]) φ
   obtain ⟨xo, xn, xt, xl⟩ := x
   obtain ⟨yo, yn, yt, yl⟩ := y1
   have hr2 : Ex.rows [Ex.mk xo xn xt xl, Ex.mk yo yn yt yl] = [(Ex.mk xo xn xt xl).cells, (Ex.mk yo yn yt yl).cells] := rfl
   simp only [Ex.cells_mk, hr2] at e1 e3 h2w ⊢
   rw [l_rt_both_0, M_loop, ← l_rt_both_0]
   simp [b_rt_both_0, h0, h2, h3, i1, e1, h2w, Ht_len, qGe, qSe]
   refine e3 _ ?_ ?_ ?_ <;> simp [h0, h2, h3]
theorem rboth_eq {part : PF} {len : Nat} (hto : Goes' part) (hp : SpecR L n_rt_not part len) (hlen : len ≤ 4097) {s : PS} {t : TS} (hA : Alk L s t) (hl : s.left.length ≤ len) :
  ∃ x t', (∀ r, eval tbl noExt n_rt_both [.ptr i 0] (Ht HB i L t ++ r) = some (.agg (Ex.cells x), Ht HB i L t' ++ r)) ∧ Alk L (chain part [kAnd] 4096 s).2 t' ∧ ((chain part [kAnd] 4096 s).2.clean → x = (chain part [kAnd] 4096 s).1) ∧ t.at_ ≤ t'.at_ ∧ x.size + 2 * (L.length - t'.at_) ≤ 2 * (L.length - t.at_) + 1 := by
 obtain ⟨x, t1, e1, a1, v1, l1, z1⟩ := hp HB i hi s t hA hl
 have g1 := hto s hA.good
 obtain ⟨y, t2, e2, a2, v2, l2, z2⟩ := rboth_loop hL hi hto hp 4096 _ t1 x (part s).1 a1 (Nat.le_trans g1.len hl) (by have := g1.len; omega) v1
 refine ⟨y, t2, fun r => ?_, a2, v2, by omega, by omega⟩
 obtain ⟨xo, xn, xt, xl⟩ := x
 simp only [Ex.cells_mk] at e1 e2
 rw [eval_M rfl rfl t_rt_both rfl]
 simp [c_rt_both, e1, Ht_len]
 exact e2 r [] _ (by simp) (by simp) (by simp)
end
section
variable {L : List Wx} (hL : L.length ≤ 10000) {HB : Heap} {i : Nat} (hi : i < HB.length)
include hL hi
theorem rexpr_loop {part : PF} {len : Nat} (hto : Goes' part) (hp : SpecR L n_rt_both part len) :
  ∀ (n : Nat) (s : PS) (t : TS) (x xP : Ex), Alk L s t → s.left.length ≤ len → s.left.length ≤ n + 1 → (s.clean → x = xP) →
   ∃ y t', (∀ (r T : Heap) (φ : Fr), Fr.get φ 0 = .ptr i 0 → Fr.get φ 2 = .ptr (HB.length + r.length) 0 → Fr.get φ 3 = .ptr (HB.length + (r.length + 1)) 0 →
    M (eval tbl noExt) [.code l_rt_expr_0, .blk 0, .code r_rt_expr_0, .fin [.cell 2 (some 4)] (HB.length + r.length)] φ (Ht HB i L t ++ (r ++ z4 :: some (Ex.cells x) :: T)) = some (.agg (Ex.cells y), Ht HB i L t' ++ r)) ∧
   Alk L (chainP part [kOr] n xP s).2 t' ∧ ((chainP part [kOr] n xP s).2.clean → y = (chainP part [kOr] n xP s).1) ∧ t.at_ ≤ t'.at_ ∧ y.size + 2 * (L.length - t'.at_) ≤ x.size + 2 * (L.length - t.at_) := by
 intro n
 induction n with
 | zero =>
  intro s t x xP hA hl hn hx
  obtain ⟨i1, _⟩ := hA.take_step hL kOr hi
  have hno : ∀ l, s.sees l = none := fun l => by
   cases h : s.sees l with
   | none => rfl
   | some u => have := hA.good.two (sees_kind h).1; omega
  simp only [hno] at i1
  simp at i1
  obtain ⟨xo, xn, xt, xl⟩ := x
  refine ⟨.mk xo xn xt xl, t, fun r T φ h0 h2 h3 => ?_, hA, hx, Nat.le_refl _, Nat.le_refl _⟩
  simp only [Ex.cells_mk]
  rw [l_rt_expr_0, M_loop]
  simp [b_rt_expr_0, r_rt_expr_0, h0, h2, h3, i1, Ht_len]
 | succ n ih =>
  intro s t x xP hA hl hn hx
  obtain ⟨i1, _⟩ := hA.take_step hL kOr hi
  have hs2 := sees_one (s := s) (a := kOr)
  unfold chainP
  cases b1 : (s.sees [kOr]).isSome with
  | false =>
   rw [b1] at hs2
   simp only [b1] at i1
   simp at i1
   rw [takes_of hs2]
   obtain ⟨xo, xn, xt, xl⟩ := x
   refine ⟨.mk xo xn xt xl, t, fun r T φ h0 h2 h3 => ?_, hA, hx, Nat.le_refl _, Nat.le_refl _⟩
   simp only [Ex.cells_mk]
   rw [l_rt_expr_0, M_loop]
   simp [b_rt_expr_0, r_rt_expr_0, h0, h2, h3, i1, Ht_len]
  | true =>
   rw [b1] at hs2
   simp only [b1] at i1
   simp at i1
   have hk0 : s.head.kind ≠ 0 := (sees_kind hs2).1
   have hc := hA.good.tidy hk0
   have hsk := hA.skip hk0
   have hg2 := skip_good hA.good hk0
   have ln : t.next.at_ = t.at_ + 1 := rfl
   have hlt := hA.lt
   rw [takes_of hs2]
   obtain ⟨y1, t1, e1, a1, v1, l1, z1⟩ := hp HB i hi _ _ hsk (by omega)
   have gp := hto s.skip hg2.1
   obtain ⟨y, t', e2, a2, v2, l2, z2⟩ := ih _ t1 (.mk 14 0 [] [x, y1]) (.mk 14 0 [] [xP, (part s.skip).1]) a1 (by have := gp.len; omega) (by have := gp.len; omega) (fun h => by rw [v1 h, hx hc])
   have h2w := two_eq 14 x y1
   have lt1 := a1.lt
   refine ⟨y, t', fun r T φ h0 h2 h3 => ?_, a2, v2, by omega, by simp only [Ex.size, Ex.sizes] at z2; omega⟩
   have e3 := fun φ => e2 r (T ++ [some (Ex.cells y1)]) φ
   obtain ⟨xo, xn, xt, xl⟩ := x
   obtain ⟨yo, yn, yt, yl⟩ := y1
   have hr2 : Ex.rows [Ex.mk xo xn xt xl, Ex.mk yo yn yt yl] = [(Ex.mk xo xn xt xl).cells, (Ex.mk yo yn yt yl).cells] := rfl
   simp only [Ex.cells_mk, hr2] at e1 e3 h2w ⊢
   rw [l_rt_expr_0, M_loop, ← l_rt_expr_0]
   simp [b_rt_expr_0, h0, h2, h3, i1, e1, h2w, Ht_len, qGe, qSe]
   refine e3 _ ?_ ?_ ?_ <;> simp [h0, h2, h3]
theorem rexpr_eq {part : PF} {len : Nat} (hto : Goes' part) (hp : SpecR L n_rt_both part len) (hlen : len ≤ 4097) {s : PS} {t : TS} (hA : Alk L s t) (hl : s.left.length ≤ len) :
  ∃ x t', (∀ r, eval tbl noExt n_rt_expr [.ptr i 0] (Ht HB i L t ++ r) = some (.agg (Ex.cells x), Ht HB i L t' ++ r)) ∧ Alk L (chain part [kOr] 4096 s).2 t' ∧ ((chain part [kOr] 4096 s).2.clean → x = (chain part [kOr] 4096 s).1) ∧ t.at_ ≤ t'.at_ ∧ x.size + 2 * (L.length - t'.at_) ≤ 2 * (L.length - t.at_) + 1 := by
 obtain ⟨x, t1, e1, a1, v1, l1, z1⟩ := hp HB i hi s t hA hl
 have g1 := hto s hA.good
 obtain ⟨y, t2, e2, a2, v2, l2, z2⟩ := rexpr_loop hL hi hto hp 4096 _ t1 x (part s).1 a1 (Nat.le_trans g1.len hl) (by have := g1.len; omega) v1
 refine ⟨y, t2, fun r => ?_, a2, v2, by omega, by omega⟩
 obtain ⟨xo, xn, xt, xl⟩ := x
 simp only [Ex.cells_mk] at e1 e2
 rw [eval_M rfl rfl t_rt_expr rfl]
 simp [c_rt_expr, e1, Ht_len]
 exact e2 r [] _ (by simp) (by simp) (by simp)
end
section
variable {L : List Wx} (hL : L.length ≤ 10000)
include hL
theorem rcmp_eq {ex : PF} {len : Nat} (hto : Goes' ex) (hlen : len + 1 ≤ 4097) (hex : SpecR L n_rt_expr ex len) : SpecR L n_rt_compare (cmpP ex) (len + 1) := by
 intro HB i hi s t hA hl
 have hp := rpart_eq hL hto hex
 obtain ⟨x, t1, e1, a1, v1, l1, z1⟩ := rsum_eq hL hi hto hp hlen hA hl
 have g1 := sumP_to hto s hA.good
 have lt1 := a1.lt
 show ∃ y t', (∀ r, eval tbl noExt n_rt_compare [.ptr i 0] (Ht HB i L t ++ r) = some (.agg (Ex.cells y), Ht HB i L t' ++ r)) ∧ Alk L (chainP (sumP ex) [gEE, gLt] 1 (sumP ex s).1 (sumP ex s).2).2 t' ∧ ((chainP (sumP ex) [gEE, gLt] 1 (sumP ex s).1 (sumP ex s).2).2.clean → y = (chainP (sumP ex) [gEE, gLt] 1 (sumP ex s).1 (sumP ex s).2).1) ∧ t.at_ ≤ t'.at_ ∧ y.size + 2 * (L.length - t'.at_) ≤ 2 * (L.length - t.at_) + 1
 obtain ⟨xP, s1, hs1⟩ : ∃ xP s1, sumP ex s = (xP, s1) := ⟨_, _, rfl⟩
 simp only [hs1] at a1 v1 g1 ⊢
 have hl1 : s1.left.length ≤ len + 1 := Nat.le_trans g1.len hl
 obtain ⟨i1, a2⟩ := a1.take_step hL gEE hi
 obtain ⟨i2, a3⟩ := a1.take_step hL gLt hi
 have hs2 := sees_two (s := s1) (a := gEE) (b := gLt)
 have hr2 : ∀ a b : Ex, Ex.rows [a, b] = [a.cells, b.cells] := fun a b => rfl
 unfold chainP
 cases b1 : (s1.sees [gEE]).isSome with
 | true =>
  rw [b1] at hs2
  simp only [b1] at i1
  simp at i1
  have hk0 : s1.head.kind ≠ 0 := (sees_kind hs2).1
  have hc := a1.good.tidy hk0
  have hsk := a1.skip hk0
  have hg2 := skip_good a1.good hk0
  have ln : t1.next.at_ = t1.at_ + 1 := rfl
  rw [takes_of hs2]
  obtain ⟨y, t2, e2, a4, v2, l2, z2⟩ := rsum_eq hL hi hto hp hlen hsk (by omega)
  have h2w := two_eq 11 x y
  have lt2 := a4.lt
  refine ⟨.mk 11 0 [] [x, y], t2, fun r => ?_, a4, fun h => ?_, by omega, by simp only [Ex.size, Ex.sizes]; omega⟩
  ·obtain ⟨xo, xn, xt, xl⟩ := x
   obtain ⟨yo, yn, yt, yl⟩ := y
   simp only [Ex.cells_mk, hr2] at e1 e2 h2w ⊢
   rw [eval_M rfl rfl t_rt_compare rfl]
   simp [c_rt_compare, e1, i1, e2, h2w, Ht_len]
  ·have h' : (sumP ex s1.skip).2.clean := h
   rw [v2 h', v1 hc]; rfl
 | false =>
  simp only [b1] at i1
  simp at i1
  cases b2 : (s1.sees [gLt]).isSome with
  | true =>
   rw [b1, b2] at hs2
   simp only [b2] at i2
   simp at i2
   have hk0 : s1.head.kind ≠ 0 := (sees_kind hs2).1
   have hc := a1.good.tidy hk0
   have hsk := a1.skip hk0
   have hg2 := skip_good a1.good hk0
   have ln : t1.next.at_ = t1.at_ + 1 := rfl
   rw [takes_of hs2]
   obtain ⟨y, t2, e2, a4, v2, l2, z2⟩ := rsum_eq hL hi hto hp hlen hsk (by omega)
   have h2w := two_eq 12 x y
   have lt2 := a4.lt
   refine ⟨.mk 12 0 [] [x, y], t2, fun r => ?_, a4, fun h => ?_, by omega, by simp only [Ex.size, Ex.sizes]; omega⟩
   ·obtain ⟨xo, xn, xt, xl⟩ := x
    obtain ⟨yo, yn, yt, yl⟩ := y
    simp only [Ex.cells_mk, hr2] at e1 e2 h2w ⊢
    rw [eval_M rfl rfl t_rt_compare rfl]
    simp [c_rt_compare, e1, i1, i2, e2, h2w, Ht_len]
   ·have h' : (sumP ex s1.skip).2.clean := h
    rw [v2 h', v1 hc]; rfl
  | false =>
   rw [b1, b2] at hs2
   simp only [b2] at i2
   simp at i2
   rw [takes_of hs2]
   refine ⟨x, t1, fun r => ?_, a1, v1, l1, z1⟩
   obtain ⟨xo, xn, xt, xl⟩ := x
   simp only [Ex.cells_mk] at e1 ⊢
   rw [eval_M rfl rfl t_rt_compare rfl]
   simp [c_rt_compare, e1, i1, i2, Ht_len]
theorem rnot_eq {ex : PF} {len : Nat} (hto : Goes' ex) (hlen : len + 1 ≤ 4097) (hex : SpecR L n_rt_expr ex len) : ∀ n, n ≤ len → SpecR L n_rt_not (notP ex n) (n + 1) := by
 intro n
 induction n with
 | zero =>
  intro hn HB i hi s t hA hl
  obtain ⟨i1, _⟩ := hA.take_step hL kNot hi
  have hno : s.sees [kNot] = none := by
   cases ho : s.sees [kNot] with
   | none => rfl
   | some t => have := hA.good.two (sees_kind ho).1; omega
  rw [hno] at i1
  simp at i1
  obtain ⟨x, t1, e1, a1, v1, l1, z1⟩ := rcmp_eq hL hto hlen hex HB i hi s t hA (by omega)
  refine ⟨x, t1, fun r => ?_, a1, v1, l1, z1⟩
  obtain ⟨xo, xn, xt, xl⟩ := x
  simp only [Ex.cells_mk] at e1 ⊢
  rw [eval_M rfl rfl t_rt_not rfl]
  simp [c_rt_not, e1, i1, Ht_len]
 | succ n ih =>
  intro hn HB i hi s t hA hl
  obtain ⟨i1, _⟩ := hA.take_step hL kNot hi
  have hs2 := sees_one (s := s) (a := kNot)
  unfold notP
  cases b1 : (s.sees [kNot]).isSome with
  | false =>
   rw [b1] at hs2
   simp only [b1] at i1
   simp at i1
   rw [takes_of hs2]
   obtain ⟨x, t1, e1, a1, v1, l1, z1⟩ := rcmp_eq hL hto hlen hex HB i hi s t hA (by omega)
   refine ⟨x, t1, fun r => ?_, a1, v1, l1, z1⟩
   obtain ⟨xo, xn, xt, xl⟩ := x
   simp only [Ex.cells_mk] at e1 ⊢
   rw [eval_M rfl rfl t_rt_not rfl]
   simp [c_rt_not, e1, i1, Ht_len]
  | true =>
   rw [b1] at hs2
   simp only [b1] at i1
   simp at i1
   have hk0 : s.head.kind ≠ 0 := (sees_kind hs2).1
   have hsk := hA.skip hk0
   have hg2 := skip_good hA.good hk0
   have ln : t.next.at_ = t.at_ + 1 := rfl
   have hlt := hA.lt
   rw [takes_of hs2]
   obtain ⟨x, t1, e1, a1, v1, l1, z1⟩ := ih (by omega) HB i hi _ _ hsk (by omega)
   have lt1 := a1.lt
   refine ⟨.mk 8 0 [] [x], t1, fun r => ?_, a1, fun h => ?_, by omega, by simp only [Ex.size, Ex.sizes]; omega⟩
   ·obtain ⟨xo, xn, xt, xl⟩ := x
    have hr1 : ∀ a : Ex, Ex.rows [a] = [a.cells] := fun a => rfl
    simp only [Ex.cells_mk, hr1] at e1 ⊢
    rw [eval_M rfl rfl t_rt_not rfl]
    simp [c_rt_not, e1, i1, Ht_len]
   ·have h' : (notP ex n s.skip).2.clean := h
    rw [v1 h']; rfl
theorem rexpr17_eq : ∀ n, n ≤ 4097 → SpecR L n_rt_expr (exprP n) n
 | 0 => fun _ HB i hi s t hA hl => by have := hA.good.pos; omega
 | n + 1 => fun hn HB i hi s t hA hl => by
  have h1 := rnot_eq hL (exprP_to n) hn (rexpr17_eq n (by omega)) n (Nat.le_refl _)
  have h2 : SpecR L n_rt_both (bothP (exprP n) n) (n + 1) := fun HB i hi s t hA hl => rboth_eq hL hi (notP_to (exprP_to n) n) h1 hn hA hl
  exact rexpr_eq hL hi (bothP_to (exprP_to n) n) h2 hn hA hl
end
theorem rdeep_loop (a b c : V) (l : List Ex) (hl : l.length ≤ 100000) (hsz : Ex.deeps l ≤ 100000) (hd : ∀ e ∈ l, eval tbl noExt n_r17_Deep [.agg (Ex.cells e)] [] = some (.int .i64 e.deep, [])) :
  ∀ (n j : Nat) (φ : Fr), j + n = l.length → Fr.get φ 1 = .ptr 0 0 → Fr.get φ 3 = .int .i64 (Ex.deeps (l.take j) : Nat) → Fr.get φ 4 = .int .i64 j →
   M (eval tbl noExt) [.code l_r17_Deep_0, .blk 0, .code r_r17_Deep_0, .fin [.t 2] 0] φ [some [a, b, c, .sl 4 (Ex.rows l)]] = some (.int .i64 ((Ex.deeps l + 1 : Nat) : Int), []) := by
 intro n
 induction n with
 | zero =>
  intro j φ hj h1 h3 h4
  have hlt : ¬ (j : Int) < l.length := by omega
  have A7 := ar_suc (Ex.deeps l) (by omega)
  rw [List.take_of_length_le (by omega)] at h3
  rw [l_r17_Deep_0, M_loop]
  simp [-arith, b_r17_Deep_0, r_r17_Deep_0, h1, h3, h4, hlt, A7, Ex.rows_len]
 | succ n ih =>
  intro j φ hj h1 h3 h4
  have hlt : (j : Int) < l.length := by omega
  have A6 := ar_suc j (by omega)
  obtain ⟨e, he, hmem, _⟩ := at_some (l := l) (i := j) (by omega)
  have hde := hd e hmem
  have hre := Ex.rows_at he
  have hmax : max ((Ex.deeps (l.take j) : Nat) : Int) (e.deep : Nat) = ((Ex.deeps (l.take (j + 1)) : Nat) : Int) := by
   rw [List.take_add_one, he, Option.toList, deeps_snoc]
   omega
  obtain ⟨eo, en, et, el⟩ := e
  simp only [Ex.cells_mk] at hde hre
  rw [l_r17_Deep_0, M_loop, ← l_r17_Deep_0]
  simp [-arith, b_r17_Deep_0, h1, h3, h4, hlt, hre, hde, hmax, A6, Ex.rows_len]
  refine ih (j + 1) _ (by omega) ?_ ?_ ?_ <;> simp [h1]
theorem rdeep_eq : ∀ (n : Nat) (e : Ex), e.size ≤ n → n ≤ 100000 → eval tbl noExt n_r17_Deep [.agg (Ex.cells e)] [] = some (.int .i64 e.deep, []) := by
 intro n
 induction n with
 | zero => intro e h; cases e; simp only [Ex.size] at h; omega
 | succ n ih =>
  intro e h hn
  obtain ⟨o, k, t, l⟩ := e
  simp only [Ex.size] at h
  have h1 := Ex.sizes_ge l
  have h2 := deeps_le l
  have hloop := rdeep_loop (.int .i64 o) (.int .i64 k) (.str t) l (by omega) (by omega) (fun x hx => ih x (by have := Ex.sizes_mem hx; omega) (by omega)) l.length 0
  show _ = some (V.int .i64 ((Ex.deeps l + 1 : Nat) : Int), [])
  simp only [Ex.cells_mk]
  rw [eval_M rfl rfl t_r17_Deep rfl]
  simp [c_r17_Deep]
  refine hloop _ (by omega) ?_ ?_ ?_ <;> simp [Ex.deeps]
theorem TS.fail_at (t : TS) (e : Int) (w : Wx) : (t.fail e w).at_ = t.at_ := by unfold TS.fail; split <;> rfl
theorem TS.fail_bad {t : TS} (h : ¬ t.fe = 0) (e : Int) (w : Wx) : t.fail e w = t := by unfold TS.fail; rw [if_neg h]
section
variable {L : List Wx} (hL : L.length ≤ 10000)
include hL
omit hL in
/-- What the loop over what may follow answers. -/
theorem rwhole_loop {HB : Heap} {i : Nat} (hi : i < HB.length) {s1 : PS} {t1 : TS} (a1 : Alk L s1 t1) (k : List UInt8) {x : V} (hx : x = .sl 1 [tx k] ∨ x = .own 1 [tx k]) (r T : Heap) (Q : Option (V × Heap) → Prop) (kk : List Item) (φ : Fr)
  (h0 : Fr.get φ 0 = .ptr i 0) (h1 : Fr.get φ 1 = x) (h7 : Fr.get φ 7 = .bool false) (h8 : Fr.get φ 8 = .int .i64 0)
  (hexit : ∀ φ', Fr.get φ' 0 = .ptr i 0 → (∀ j, j = 4 ∨ j = 5 ∨ j = 6 → Fr.get φ' j = Fr.get φ j) → Fr.get φ' 7 = .bool (s1.sees [k]).isSome → Q (M (eval tbl noExt) kk φ' (Ht HB i L t1 ++ (r ++ T)))) :
  Q (M (eval tbl noExt) (.code l_rt_whole_0 :: .blk 0 :: kk) φ (Ht HB i L t1 ++ (r ++ T))) := by
 have i1 := a1.is_step k hi
 have w1 : IntKind.i64.wrap 1 = 1 := by decide
 rw [l_rt_whole_0, M_loop, ← l_rt_whole_0]
 rcases hx with rfl | rfl
 all_goals
  simp [b_rt_whole_0, h0, h1, h7, h8, i1, w1, tx, Ht_len]
  rw [l_rt_whole_0, M_loop]
  simp [b_rt_whole_0, h0, h1, h7, h8, i1, w1, tx, Ht_len]
  refine hexit _ ?_ ?_ ?_ <;> simp [h0]
  try (intro j hj; rcases hj with rfl | rfl | rfl <;> simp)
theorem rwhole_eq (k : List UInt8) (hk : k ≠ []) (n : Nat) (hn : n ≤ 4097) {HB : Heap} {i : Nat} (hi : i < HB.length) {x : V} (hx : x = .sl 1 [tx k] ∨ x = .own 1 [tx k]) {s : PS} {t : TS} (hA : Alk L s t) (hl : s.left.length ≤ n) :
  ∃ y t', (∀ r, eval tbl noExt n_rt_whole [.ptr i 0, x] (Ht HB i L t ++ r) = some (.agg (Ex.cells y), Ht HB i L t' ++ r)) ∧ Alk L (wholeP k n s).2 t' ∧ ((wholeP k n s).2.clean → y = (wholeP k n s).1) ∧ t.at_ ≤ t'.at_ := by
 obtain ⟨w, hw, hwh⟩ := hA.word
 have hnow := fun r => tnow_eq hi hw r
 have hwc : w.cells = [iw w.kind, .str w.s, iw w.n, iw w.a] := rfl
 rw [hwc] at hnow
 obtain ⟨y, t1, e1, a1, v1, l1, z1⟩ := rexpr17_eq hL n hn HB i hi s t hA hl
 have gto := exprP_to n s hA.good
 have hlt := hA.lt
 have hD := rdeep_eq y.size y (Nat.le_refl _) (by omega)
 unfold wholeP
 dsimp only
 obtain ⟨xP, s1, hs1⟩ : ∃ xP s1, exprP n s = (xP, s1) := ⟨_, _, rfl⟩
 simp only [hs1] at a1 v1 gto ⊢
 obtain ⟨w1, hw1, hwh1⟩ := a1.word
 have hnow1 := fun r => tnow_eq hi hw1 r
 have hwc1 : w1.cells = [iw w1.kind, .str w1.s, iw w1.n, iw w1.a] := rfl
 have hf12 := fun r => tfail_eq (L := L) hi t1 12 w1 r
 rw [hwc1] at hnow1 hf12
 obtain ⟨b, hb⟩ : ∃ b, b = (s1.sees [k]).isSome := ⟨_, rfl⟩
 obtain ⟨t2, ht2⟩ : ∃ t2, t2 = (if b then t1 else t1.fail 12 w1) := ⟨_, rfl⟩
 have hf14 := fun r => tfail_eq (L := L) hi t2 14 w r
 rw [hwc] at hf14
 obtain ⟨D, hDD⟩ : ∃ D, D = y.deep := ⟨_, rfl⟩
 rw [← hDD] at hD
 obtain ⟨t3, ht3⟩ : ∃ t3, t3 = (if 8 < D then t2.fail 14 w else t2) := ⟨_, rfl⟩
 refine ⟨y, t3, fun r => ?_, ?_⟩
 ·have hloop := fun φ T h0 h1 h7 h8 hexit => rwhole_loop hi a1 k hx r T (fun o => o = some (V.agg (Ex.cells y), Ht HB i L t3 ++ r)) [.code r_rt_whole_0, .fin [.cell 4 (some 4)] (HB.length + r.length)] φ h0 h1 h7 h8 hexit
  obtain ⟨yo, yn, yt, yl⟩ := y
  simp only [Ex.cells_mk] at e1 hD hloop ⊢
  rw [eval_M rfl rfl t_rt_whole rfl]
  have hfin : ∀ φ', Fr.get φ' 0 = .ptr i 0 → Fr.get φ' 4 = .ptr (HB.length + r.length) 0 → Fr.get φ' 5 = .ptr (HB.length + (r.length + 1)) 0 → Fr.get φ' 6 = .ptr (HB.length + (r.length + 2)) 0 → Fr.get φ' 7 = .bool b →
    M (eval tbl noExt) [.code r_rt_whole_0, .fin [.cell 4 (some 4)] (HB.length + r.length)] φ' (Ht HB i L t1 ++ (r ++ [some [.int .i64 0, .int .i64 0, .str [], .own 4 []], some [iw w.kind, .str w.s, iw w.n, iw w.a], some [.int .i64 yo, .int .i64 yn, .str yt, .sl 4 (Ex.rows yl)]])) = some (V.agg [.int .i64 yo, .int .i64 yn, .str yt, .sl 4 (Ex.rows yl)], Ht HB i L t3 ++ r) := by
   intro φ' k0 k4 k5 k6 k7
   cases b with
   | true =>
    simp only [if_true] at ht2
    rw [ht2] at hf14
    by_cases h8 : 8 < D
    ·have h8' : (8 : Int) < D := by omega
     rw [if_pos h8, ht2] at ht3
     rw [ht3]
     simp [r_rt_whole_0, k0, k4, k5, k6, k7, hD, h8', hf14, Ht_len]
    ·have h8' : ¬ (8 : Int) < D := by omega
     rw [if_neg h8, ht2] at ht3
     rw [ht3]
     simp [r_rt_whole_0, k0, k4, k5, k6, k7, hD, h8', Ht_len]
   | false =>
    simp only [Bool.false_eq_true, if_false] at ht2
    rw [ht2] at hf14
    by_cases h8 : 8 < D
    ·have h8' : (8 : Int) < D := by omega
     rw [if_pos h8, ht2] at ht3
     rw [ht3]
     simp [r_rt_whole_0, k0, k4, k5, k6, k7, hD, h8', hnow1, hf12, hf14, Ht_len]
    ·have h8' : ¬ (8 : Int) < D := by omega
     rw [if_neg h8, ht2] at ht3
     rw [ht3]
     simp [r_rt_whole_0, k0, k4, k5, k6, k7, hD, h8', hnow1, hf12, Ht_len]
  rcases hx with rfl | rfl
  all_goals
   simp [c_rt_whole, hnow, e1, Ht_len]
   refine hloop _ _ ?_ ?_ ?_ ?_ ?_
   ·simp
   ·simp
   ·simp
   ·simp
   ·intro φ' g0 g456 g7
    refine hfin φ' g0 ?_ ?_ ?_ ?_
    ·rw [g456 4 (.inl rfl)]; simp
    ·rw [g456 5 (.inr (.inl rfl))]; simp
    ·rw [g456 6 (.inr (.inr rfl))]; simp
    ·rw [g7, hb]
 ·have hat : t3.at_ = t1.at_ := by
   rw [ht3, ht2]
   split <;> split <;> simp [TS.fail_at]
  by_cases hc : s1.clean
  ·have hsc := gto.clean hc
   have hy := v1 hc
   have ha1 := a1.clean_iff.1 hc
   rw [if_neg (by simpa using hc)]
   cases b with
   | false =>
    simp only [Bool.false_eq_true, if_false] at ht2
    have hno : (s1.sees [k]).isNone = true := by cases h : s1.sees [k] with
     | none => rfl
     | some u => rw [h] at hb; cases hb
    rw [if_pos ⟨hno, fun h => hk h.1⟩]
    have h1 := a1.failh (show (12 : Int) ≠ 0 by omega) hwh1
    have h3 : t3 = t1.fail 12 w1 := by
     rw [ht3, ht2]
     split
     ·exact TS.fail_bad (by unfold TS.fail; rw [if_pos ha1]; exact (by decide : ¬ (12 : Int) = 0)) _ _
     ·rfl
    rw [h3]
    exact ⟨h1, fun h => absurd h (fail_dirty (by omega) _), by rw [TS.fail_at]; exact l1⟩
   | true =>
    simp only [if_true] at ht2
    have hno : ¬ ((s1.sees [k]).isNone = true) := by cases h : s1.sees [k] with
     | none => rw [h] at hb; cases hb
     | some u => simp
    rw [if_neg (fun h => hno h.1)]
    rw [hDD, hy, ht2] at ht3
    by_cases h8 : 8 < xP.deep
    ·rw [if_pos h8] at ht3 ⊢
     rw [ht3]
     have := a1.fail (show (14 : Int) ≠ 0 by omega) w
     rw [hwh hsc] at this ⊢
     exact ⟨this, fun h => absurd h (fail_dirty (by omega) _), by rw [TS.fail_at]; exact l1⟩
    ·rw [if_neg h8] at ht3 ⊢
     rw [ht3]
     exact ⟨a1, fun _ => hy, l1⟩
  ·rw [if_pos hc]
   have hbad : ¬ t1.fe = 0 := fun e => hc (a1.clean_iff.2 e)
   have h2 : t2 = t1 := by rw [ht2]; split; rfl; exact TS.fail_bad hbad _ _
   have h3 : t3 = t1 := by
    rw [ht3, h2]
    split
    ·exact TS.fail_bad hbad _ _
    ·rfl
   rw [h3]
   exact ⟨a1, fun h => absurd h hc, l1⟩
end
section
variable {HB : Heap} {i : Nat} {L : List Wx}
theorem qGt (s : TS) (r T : Heap) (z : Option (List V)) : (Ht HB i L s ++ (r ++ (T ++ [z])))[HB.length + (r.length + T.length)]? = some z := by
 rw [List.getElem?_append_right (by rw [Ht_len]; omega), Ht_len, List.getElem?_append_right (by omega)]
 have : HB.length + (r.length + T.length) - HB.length - r.length = T.length := by omega
 rw [this]; simp
theorem qSt (s : TS) (r T : Heap) (z u : Option (List V)) : (Ht HB i L s ++ (r ++ (T ++ [z]))).set (HB.length + (r.length + T.length)) u = Ht HB i L s ++ (r ++ (T ++ [u])) := by
 rw [List.set_append_right _ _ (by rw [Ht_len]; omega), Ht_len, List.set_append_right _ _ (by omega)]
 have : HB.length + (r.length + T.length) - HB.length - r.length = T.length := by omega
 rw [this]; simp
end
section
variable {L : List Wx} (hL : L.length ≤ 10000)
include hL
theorem rexprs_loop (n : Nat) (hn : n ≤ 4097) {HB : Heap} {i : Nat} (hi : i < HB.length) (tot : Nat) (h3 : tot ≤ 3) :
  ∀ (k j : Nat) (s : PS) (t : TS) (l lP : List Ex), k + j = tot → l.length = j → Alk L s t → s.left.length ≤ n → (s.clean → l = lP) →
   ∃ l' t', (∀ (r T : Heap) (φ : Fr), Fr.get φ 0 = .ptr i 0 → Fr.get φ 1 = .int .i64 tot → Fr.get φ 5 = .own 4 (Ex.rows l) → Fr.get φ 6 = .int .i64 j →
    M (eval tbl noExt) [.code l_rt_exprs_0, .blk 0, .code r_rt_exprs_0, .fin [.t 4] (HB.length + r.length)] φ (Ht HB i L t ++ (r ++ T)) = some (.own 4 (Ex.rows l'), Ht HB i L t' ++ r)) ∧
   Alk L (exprsG n k lP s).2 t' ∧ ((exprsG n k lP s).2.clean → l' = (exprsG n k lP s).1) := by
 intro k
 induction k with
 | zero =>
  intro j s t l lP hj hlj hA hl hv
  refine ⟨l, t, fun r T φ g0 g1 g5 g6 => ?_, hA, hv⟩
  have hlt : ¬ (j : Int) < tot := by omega
  rw [l_rt_exprs_0, M_loop]
  simp [b_rt_exprs_0, r_rt_exprs_0, g0, g1, g5, g6, hlt, Ht_len]
 | succ k ih =>
  intro j s t l lP hj hlj hA hl hv
  have hlt : (j : Int) < tot := by omega
  have A6 := ar_suc j (by omega)
  have A7 : arith .sub .i64 (tot : Int) 1 = some (.int .i64 ((tot : Int) - 1)) := by
   show some (V.int .i64 _) = _
   rw [w64 (by omega) (by omega)]
  have g1 := wholeP_to (if k = 0 then gSe else gCo) n s hA.good
  unfold exprsG
  dsimp only
  obtain ⟨e, he⟩ : ∃ e, e = (if k = 0 then gSe else gCo) := ⟨_, rfl⟩
  have hne : e ≠ [] := by rw [he]; split <;> simp
  rw [← he] at g1 ⊢
  obtain ⟨y, t1, e1, a1, v1, l1⟩ := rwhole_eq hL e hne n hn hi (x := .own 1 [tx e]) (.inr rfl) hA hl
  obtain ⟨t2, e2, a2, l2⟩ := a1.need_step hL e hi
  have g2 := wants_to a1.good e
  obtain ⟨l', t', e3, a3, v3⟩ := ih (j + 1) _ t2 (l ++ [y]) (lP ++ [(wholeP e n s).1]) (by omega) (by simp; omega) a2 (by have := g1.len; have := g2.len; omega) (fun h => by
   have h1 := g2.clean h
   rw [v1 h1, hv (g1.clean h1)])
  refine ⟨l', t', fun r T φ k0 k1 k5 k6 => ?_, a3, v3⟩
  have e4 := fun φ => e3 r (T ++ [some (Ex.cells y)]) φ
  rw [Ex.rows_snoc] at e4
  have hrl := Ex.rows_len l
  have hcap : 2 * (l.length + 1) * 56 ≤ 281474976710656 := by omega
  obtain ⟨yo, yn, yt, yl⟩ := y
  simp only [Ex.cells_mk, tx] at e1 e4
  rw [l_rt_exprs_0, M_loop, ← l_rt_exprs_0]
  by_cases hk : k = 0
  ·have hl2 : ¬ (j : Int) < (tot : Int) - 1 := by omega
   rw [if_pos hk] at he
   subst he
   simp [-arith, b_rt_exprs_0, k0, k1, k5, k6, hlt, hl2, A6, A7, e1, e2, hrl, hcap, Ht_len, qGt, qSt]
   refine e4 _ ?_ ?_ ?_ ?_ <;> simp [k0, k1]
  ·have hl2 : (j : Int) < (tot : Int) - 1 := by omega
   rw [if_neg hk] at he
   subst he
   simp [-arith, b_rt_exprs_0, k0, k1, k5, k6, hlt, hl2, A6, A7, e1, e2, hrl, hcap, Ht_len, qGt, qSt]
   refine e4 _ ?_ ?_ ?_ ?_ <;> simp [k0, k1]
theorem rexprs_eq (n : Nat) (hn : n ≤ 4097) {HB : Heap} {i : Nat} (hi : i < HB.length) (tot : Nat) (h3 : tot ≤ 3) {s : PS} {t : TS} (hA : Alk L s t) (hl : s.left.length ≤ n) {ti : Int} (hti : ti = (tot : Int)) :
  ∃ l' t', (∀ r, eval tbl noExt n_rt_exprs [.ptr i 0, .int .i64 ti] (Ht HB i L t ++ r) = some (.own 4 (Ex.rows l'), Ht HB i L t' ++ r)) ∧ Alk L (exprsG n tot [] s).2 t' ∧ ((exprsG n tot [] s).2.clean → l' = (exprsG n tot [] s).1) := by
 subst hti
 obtain ⟨l', t', e3, a3, v3⟩ := rexprs_loop hL n hn hi tot h3 tot 0 s t [] [] (by omega) rfl hA hl (fun _ => rfl)
 refine ⟨l', t', fun r => ?_, a3, v3⟩
 have e4 := fun φ => e3 r [] φ
 rw [List.append_nil] at e4
 rw [eval_M rfl rfl t_rt_exprs rfl]
 simp [c_rt_exprs, Ht_len]
 refine e4 _ ?_ ?_ ?_ ?_ <;> simp [Ex.rows]
end
end Go.AM.Spec
