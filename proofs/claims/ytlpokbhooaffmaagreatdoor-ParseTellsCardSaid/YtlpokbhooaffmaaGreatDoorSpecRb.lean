/-
 The parts of this proof that speak of the functions one by one.
-/
import Derived.Test.YtlpokbhooaffmaaGreatDoorSpecRa
import Derived.Test.YtlpokbhooaffmaaGreatDoorSpecPb
import Derived.Test.YtlpokbhooaffmaaGreatDoorSpecWd
import Derived.Test.YtlpokbhooaffmaaGreatDoorSpecTr
namespace Go.AM.Spec
set_option linter.unusedVariables false
set_option linter.unusedSimpArgs false
set_option maxHeartbeats 4000000
set_option maxRecDepth 10000
open PS
/-- The kind of a statement that is a key word, and expressions. -/
def simR (s : List UInt8) : Int :=
 if s = kCreate then 1 else if s = kMkdir then 2 else if s = kWrite then 3 else if s = kAppend then 4 else if s = kTruncate then 5
 else if s = kRename then 6 else if s = kUnlink then 7 else if s = kFsync then 8 else if s = kFdatasync then 9 else if s = kSyncdir then 10
 else if s = kReplay then 17 else if s = kAssert then 18 else 0
theorem rsimple_eq (s : List UInt8) : eval tbl noExt n_r17_simple [.str s] [] = some (.int .i64 (simR s), []) := by
 by_cases a0 : s = kCreate
 ·subst a0; exact (eval_iff _ _ _ _ _ _).2 ⟨80, by kernel_rfl⟩
 by_cases a1 : s = kMkdir
 ·subst a1; exact (eval_iff _ _ _ _ _ _).2 ⟨80, by kernel_rfl⟩
 by_cases a2 : s = kWrite
 ·subst a2; exact (eval_iff _ _ _ _ _ _).2 ⟨80, by kernel_rfl⟩
 by_cases a3 : s = kAppend
 ·subst a3; exact (eval_iff _ _ _ _ _ _).2 ⟨80, by kernel_rfl⟩
 by_cases a4 : s = kTruncate
 ·subst a4; exact (eval_iff _ _ _ _ _ _).2 ⟨80, by kernel_rfl⟩
 by_cases a5 : s = kRename
 ·subst a5; exact (eval_iff _ _ _ _ _ _).2 ⟨80, by kernel_rfl⟩
 by_cases a6 : s = kUnlink
 ·subst a6; exact (eval_iff _ _ _ _ _ _).2 ⟨80, by kernel_rfl⟩
 by_cases a7 : s = kFsync
 ·subst a7; exact (eval_iff _ _ _ _ _ _).2 ⟨80, by kernel_rfl⟩
 by_cases a8 : s = kFdatasync
 ·subst a8; exact (eval_iff _ _ _ _ _ _).2 ⟨80, by kernel_rfl⟩
 by_cases a9 : s = kSyncdir
 ·subst a9; exact (eval_iff _ _ _ _ _ _).2 ⟨80, by kernel_rfl⟩
 by_cases a10 : s = kReplay
 ·subst a10; exact (eval_iff _ _ _ _ _ _).2 ⟨80, by kernel_rfl⟩
 by_cases a11 : s = kAssert
 ·subst a11; exact (eval_iff _ _ _ _ _ _).2 ⟨80, by kernel_rfl⟩
 have b0 : ¬ kCreate = s := fun h => a0 h.symm
 have b1 : ¬ kMkdir = s := fun h => a1 h.symm
 have b2 : ¬ kWrite = s := fun h => a2 h.symm
 have b3 : ¬ kAppend = s := fun h => a3 h.symm
 have b4 : ¬ kTruncate = s := fun h => a4 h.symm
 have b5 : ¬ kRename = s := fun h => a5 h.symm
 have b6 : ¬ kUnlink = s := fun h => a6 h.symm
 have b7 : ¬ kFsync = s := fun h => a7 h.symm
 have b8 : ¬ kFdatasync = s := fun h => a8 h.symm
 have b9 : ¬ kSyncdir = s := fun h => a9 h.symm
 have b10 : ¬ kReplay = s := fun h => a10 h.symm
 have b11 : ¬ kAssert = s := fun h => a11 h.symm
 have hR : simR s = 0 := by simp only [simR, a0, a1, a2, a3, a4, a5, a6, a7, a8, a9, a10, a11, if_false]
 rw [hR]
 rw [eval_M rfl rfl t_r17_simple rfl]
 have w1 : IntKind.i64.wrap 1 = 1 := by decide
 have w2 : IntKind.i64.wrap 2 = 2 := by decide
 have w3 : IntKind.i64.wrap 3 = 3 := by decide
 have w4 : IntKind.i64.wrap 4 = 4 := by decide
 have w5 : IntKind.i64.wrap 5 = 5 := by decide
 have w6 : IntKind.i64.wrap 6 = 6 := by decide
 have w7 : IntKind.i64.wrap 7 = 7 := by decide
 have w8 : IntKind.i64.wrap 8 = 8 := by decide
 have w9 : IntKind.i64.wrap 9 = 9 := by decide
 have w10 : IntKind.i64.wrap 10 = 10 := by decide
 simp [c_r17_simple]
 iterate 10
  rw [l_r17_simple_0, M_loop, ← l_r17_simple_0]
  simp [b_r17_simple_0, b0, b1, b2, b3, b4, b5, b6, b7, b8, b9, w1, w2, w3, w4, w5, w6, w7, w8, w9, w10]
 rw [l_r17_simple_0, M_loop]
 simp [b_r17_simple_0, r_r17_simple_0, a10, a11]
theorem rExprs_eq (op : Int) (h1 : 1 ≤ op) (h2 : op ≤ 18) : eval tbl noExt n_r16_Exprs [.int .i64 op] [] = some (.tup [.int .i64 (nEx op), .bool true], []) := by
 have : op = 1 ∨ op = 2 ∨ op = 3 ∨ op = 4 ∨ op = 5 ∨ op = 6 ∨ op = 7 ∨ op = 8 ∨ op = 9 ∨ op = 10 ∨ op = 11 ∨ op = 12 ∨ op = 13 ∨ op = 14 ∨ op = 15 ∨ op = 16 ∨ op = 17 ∨ op = 18 := by omega
 rcases this with rfl | rfl | rfl | rfl | rfl | rfl | rfl | rfl | rfl | rfl | rfl | rfl | rfl | rfl | rfl | rfl | rfl | rfl <;> exact (eval_iff _ _ _ _ _ _).2 ⟨60, by kernel_rfl⟩
/-- Where a statement's words begin. -/
def afterB (s : PS) (d : Int) : PS := if s.clean then (if 256 < s.st + 1 ∨ 8 < d then PS.fail ⟨s.left, s.fe, s.fa, s.st + 1, s.o⟩ 14 s.head else PS.skip ⟨s.left, s.fe, s.fa, s.st + 1, s.o⟩) else s
namespace Alk
variable {L : List Wx} {s : PS} {t : TS}
theorem bnext (h : Alk L s t) (hc : ¬ s.clean) (hl : t.at_ + 1 < L.length) : Alk L s t.next := ⟨h.good, hl, h.fe, h.fa, h.tame, fun c => absurd c hc⟩
/-- What keeps a fault is like what had it. -/
theorem back {r : PS} (h : Alk L r t) (hs : s.good) (hto : s.to r) (hc : ¬ s.clean) (ht : s.fe = 0 → s.fa = 0) : Alk L s t :=
 ⟨hs, h.lt, by rw [h.fe, (hto.keep hc).1], by rw [h.fa, (hto.keep hc).2], ht, fun c => absurd c hc⟩
theorem begin_step (h : Alk L s t) {w : Wx} (hw : L[t.at_]? = some w) (hwh : s.clean → w = s.head) (hkw : w.kind ≠ 0) (hl : t.at_ + 1 < L.length) (hst : s.clean → 0 ≤ s.st ∧ s.st ≤ 5000) (d : Int) {HB : Heap} {i : Nat} (hi : i < HB.length) :
  ∃ u, (∀ r, eval tbl noExt n_rt_begin [.ptr i 0, .int .i64 d] (Ht HB i L t ++ r) = some (.tup [], Ht HB i L u ++ r)) ∧ u.at_ = t.at_ ∧ Alk L (afterB s d) u.next := by
 have gI := fun r => gHt (L := L) hi t r
 unfold TS.cells at gI
 obtain ⟨v, hv⟩ : ∃ v, v = IntKind.i64.wrap (t.st + 1) := ⟨_, rfl⟩
 have A : arith .add .i64 t.st 1 = some (.int .i64 v) := by rw [hv]; rfl
 obtain ⟨u1, hu1⟩ : ∃ u1 : TS, u1 = ⟨t.at_, v, t.fe, t.fa⟩ := ⟨_, rfl⟩
 have hS : ∀ r, (Ht HB i L t ++ r).set i (some [V.sl 4 (wrows L), iw t.at_, .int .i64 v, iw t.fe, iw t.fa]) = Ht HB i L u1 ++ r := fun r => by
  have := sHt (L := L) hi t u1 r
  rw [hu1] at this ⊢; exact this
 have gU : ∀ r, (Ht HB i L u1 ++ r)[i]? = some (some [V.sl 4 (wrows L), iw t.at_, .int .i64 v, iw t.fe, iw t.fa]) := fun r => by
  have := gHt (L := L) hi u1 r
  rw [hu1] at this ⊢; exact this
 have hw1 : L[u1.at_]? = some w := by rw [hu1]; exact hw
 have hn := fun r => tnow_eq hi hw1 r
 have hf := fun r => tfail_eq (L := L) hi u1 14 w r
 have hwc : w.cells = [iw w.kind, .str w.s, iw w.n, iw w.a] := rfl
 rw [hwc] at hn hf
 have hu1at : u1.at_ = t.at_ := by rw [hu1]
 refine ⟨if 256 < v ∨ 8 < d then u1.fail 14 w else u1, fun r => ?_, by split <;> simp [TS.fail_at, hu1at], ?_⟩
 ·rw [eval_M rfl rfl t_rt_begin rfl]
  by_cases h1 : 256 < v
  ·simp [-arith, c_rt_begin, gI, A, hS, gU, h1, hn, hf, Ht_len]
  ·by_cases h2 : 8 < d
   ·simp [-arith, c_rt_begin, gI, A, hS, gU, h1, h2, hn, hf, Ht_len]
   ·simp [-arith, c_rt_begin, gI, A, hS, gU, h1, h2, Ht_len]
 ·unfold afterB
  by_cases hc : s.clean
  ·rw [if_pos hc]
   obtain ⟨q1, q2⟩ := hst hc
   obtain ⟨q3, q4⟩ := h.left hc
   have hvv : v = s.st + 1 := by rw [hv, q4, w64 (by omega) (by omega)]
   have ha : Alk L ⟨s.left, s.fe, s.fa, s.st + 1, s.o⟩ u1 := ⟨st_good h.good _, by rw [hu1]; exact h.lt, by rw [hu1]; exact h.fe, by rw [hu1]; exact h.fa, h.tame, fun _ => ⟨by rw [hu1]; exact q3, by rw [hu1]; exact hvv⟩⟩
   rw [hvv]
   by_cases hlim : 256 < s.st + 1 ∨ 8 < d
   ·rw [if_pos hlim, if_pos hlim]
    exact (ha.failh (show (14 : Int) ≠ 0 by omega) (fun _ => hwh hc)).bnext (fail_dirty (by omega) _) (by rw [TS.fail_at, hu1at]; exact hl)
   ·rw [if_neg hlim, if_neg hlim]
    exact ha.skip (show s.head.kind ≠ 0 by rw [← hwh hc]; exact hkw)
  ·rw [if_neg hc]
   have hbad : ¬ u1.fe = 0 := by rw [hu1]; exact fun e => hc (h.clean_iff.2 e)
   have hu : (if 256 < v ∨ 8 < d then u1.fail 14 w else u1) = u1 := by
    split
    ·exact TS.fail_bad hbad _ _
    ·rfl
   rw [hu]
   have ha : Alk L s u1 := ⟨h.good, by rw [hu1]; exact h.lt, by rw [hu1]; exact h.fe, by rw [hu1]; exact h.fa, h.tame, fun c => absurd c hc⟩
   exact ha.bnext hc (by rw [hu1at]; exact hl)
end Alk
/-- What the document's function for statements answers, beside the program's. -/
def SpecSR (L : List Wx) (stm : SF) (len : Nat) : Prop := ∀ (HB : Heap) (i : Nat), i < HB.length → ∀ (s : PS) (t : TS), Alk L s t → s.clean → s.left.length ≤ len → 0 ≤ s.st → s.st + (s.left.length : Int) ≤ 5000 → ∀ d : Int, 0 ≤ d → d ≤ 9 →
 ∃ x t', (∀ r, eval tbl noExt n_rt_stmt [.ptr i 0, .int .i64 d] (Ht HB i L t ++ r) = some (.agg (Sm.cells x), Ht HB i L t' ++ r)) ∧ Alk L (stm d s).2 t' ∧ ((stm d s).2.clean → x = (stm d s).1)
section
variable {L : List Wx} (hL : L.length ≤ 10000) {stm : SF} {len : Nat} (hto : ∀ d, Goes' (stm d)) (hst : SpecSR L stm len) (hless : Less stm) {HB : Heap} {i : Nat} (hi : i < HB.length)
include hL hto hst hless hi
theorem rblock_loop (d : Int) :
  ∀ (k : Nat) (s : PS) (t : TS) (l lP : List Sm), l.length + k ≤ 10000 → Alk L s t → s.left.length ≤ len → (s.clean → s.left.length ≤ k) → (s.clean → 0 ≤ s.st ∧ s.st + (s.left.length : Int) ≤ 5000 ∧ 0 ≤ d ∧ d ≤ 9) → (s.clean → l = lP) →
   ∃ l' t', (∀ (r T : Heap) (φ : Fr), Fr.get φ 0 = .ptr i 0 → Fr.get φ 1 = .int .i64 d → Fr.get φ 5 = .own 7 (Sm.rows l) →
    M (eval tbl noExt) [.code l_rt_block_0, .blk 0, .code r_rt_block_0, .fin [.t 4] (HB.length + r.length)] φ (Ht HB i L t ++ (r ++ T)) = some (.own 7 (Sm.rows l'), Ht HB i L t' ++ r)) ∧
   Alk L (blockG (stm d) k lP s).2 t' ∧ ((blockG (stm d) k lP s).2.clean → l' = (blockG (stm d) k lP s).1) := by
 have hbadc : ∀ (s : PS) (t : TS) (l : List Sm), Alk L s t → ¬ s.clean → (∀ (r T : Heap) (φ : Fr), Fr.get φ 0 = .ptr i 0 → Fr.get φ 1 = .int .i64 d → Fr.get φ 5 = .own 7 (Sm.rows l) →
    M (eval tbl noExt) [.code l_rt_block_0, .blk 0, .code r_rt_block_0, .fin [.t 4] (HB.length + r.length)] φ (Ht HB i L t ++ (r ++ T)) = some (.own 7 (Sm.rows l), Ht HB i L t ++ r)) := by
  intro s t l hA hc r T φ g0 g1 g5
  obtain ⟨w, hw, hwh⟩ := hA.word
  have hbad : ¬ t.fe = 0 := fun e => hc (hA.clean_iff.2 e)
  have hb := fun r => tbad_eq (L := L) hi t r
  have hn := fun r => tneed_eq hi hw hL gRb r
  have hse : t.sees w gRb = false := by simp [TS.sees, hbad]
  rw [hse] at hn
  simp [TS.fail_bad hbad] at hn
  rw [l_rt_block_0, M_loop]
  simp [b_rt_block_0, r_rt_block_0, g0, g1, g5, hb, hbad, hn, Ht_len]
 intro k
 induction k with
 | zero =>
  intro s t l lP hk hA hl hck hb hv
  have hc : ¬ s.clean := fun h => by have := hck h; have := hA.good.pos; omega
  exact ⟨l, t, hbadc s t l hA hc, hA, fun h => absurd h hc⟩
 | succ k ih =>
  intro s t l lP hk hA hl hck hb hv
  unfold blockG
  by_cases hc : s.clean
  case neg =>
   rw [if_pos hc]
   exact ⟨l, t, hbadc s t l hA hc, hA, fun h => absurd h hc⟩
  rw [if_neg (by simpa using hc)]
  obtain ⟨w, hw, hwh⟩ := hA.word
  have h0 := hA.clean_iff.1 hc
  have hbd := fun r => tbad_eq (L := L) hi t r
  have i1 := hA.is_step gRb hi
  have hs1 := sees_one (s := s) (a := gRb)
  cases b1 : (s.sees [gRb]).isSome with
  | true =>
   rw [b1] at hs1 i1
   have hn := fun r => tneed_eq hi hw hL gRb r
   rw [hA.seen hwh gRb, b1] at hn
   simp at hn
   rw [takes_of hs1]
   refine ⟨l, t.next, fun r T φ g0 g1 g5 => ?_, hA.skip (sees_kind hs1).1, fun _ => hv hc⟩
   rw [l_rt_block_0, M_loop]
   simp [b_rt_block_0, r_rt_block_0, g0, g1, g5, hbd, h0, i1, hn, Ht_len]
  | false =>
   rw [b1] at hs1 i1
   rw [takes_of hs1]
   obtain ⟨q1, q2, q3, q4⟩ := hb hc
   obtain ⟨x, t1, e1, a1, v1⟩ := hst HB i hi s t hA hc hl q1 q2 d q3 q4
   have gto := hto d s hA.good
   have hls := hless d s hA.good
   have hcnt := gto.cnt
   have hlk := hck hc
   obtain ⟨l', t', e2, a2, v2⟩ := ih (stm d s).2 t1 (l ++ [x]) (lP ++ [(stm d s).1]) (by simp; omega) a1 (Nat.le_trans gto.len hl) (fun h => by have := hls h; omega) (fun _ => ⟨by omega, by omega, q3, q4⟩) (fun h => by rw [v1 h, hv hc])
   refine ⟨l', t', fun r T φ g0 g1 g5 => ?_, a2, v2⟩
   have e3 := fun φ => e2 r (T ++ [some (Sm.cells x)]) φ
   rw [Sm.rows_snoc] at e3
   have hrl := Sm.rows_ln l
   have hcap : 2 * (l.length + 1) * 112 ≤ 281474976710656 := by omega
   obtain ⟨x1, x2, x3, x4, x5, x6, x7⟩ := x
   simp only [Sm.cells_mk] at e1 e3
   rw [l_rt_block_0, M_loop, ← l_rt_block_0]
   simp [-arith, b_rt_block_0, g0, g1, g5, hbd, h0, i1, e1, hrl, hcap, Ht_len, qGt, qSt]
   refine e3 _ ?_ ?_ ?_ <;> simp [g0, g1]
theorem rblock_eq (hlen : len ≤ 5000) (d : Int) {s : PS} {t : TS} (hA : Alk L s t) (hl : s.left.length ≤ len) (hb : s.clean → 0 ≤ s.st ∧ s.st + (s.left.length : Int) ≤ 5000 ∧ 0 ≤ d ∧ d ≤ 9) :
  ∃ l t', (∀ r, eval tbl noExt n_rt_block [.ptr i 0, .int .i64 d] (Ht HB i L t ++ r) = some (.own 7 (Sm.rows l), Ht HB i L t' ++ r)) ∧ Alk L (blockP stm len d s).2 t' ∧ ((blockP stm len d s).2.clean → l = (blockP stm len d s).1) := by
 obtain ⟨t1, e1, a1, l1⟩ := hA.need_step hL gLb hi
 have g1 := wants_to hA.good gLb
 have hcnt := g1.cnt
 obtain ⟨l', t', e2, a2, v2⟩ := rblock_loop hL hto hst hless hi d len _ t1 [] [] (by simp; omega) a1 (Nat.le_trans g1.len hl) (fun _ => Nat.le_trans g1.len hl) (fun h => by have := hb (g1.clean h); omega) (fun _ => rfl)
 refine ⟨l', t', fun r => ?_, a2, v2⟩
 have e3 := fun φ => e2 r [] φ
 rw [List.append_nil] at e3
 rw [eval_M rfl rfl t_rt_block rfl]
 simp [c_rt_block, e1, Ht_len]
 refine e3 _ ?_ ?_ ?_ <;> simp [Sm.rows]
end
set_option linter.unusedVariables false
set_option linter.unusedSimpArgs false
set_option maxHeartbeats 4000000
set_option maxRecDepth 10000
open PS
abbrev z7 : Option (List V) := some [.int .i64 0, .str [], .int .i64 0, .own 4 [], .own 7 [], .own 7 [], .bool false]
section
variable {HB : Heap} {i : Nat} {L : List Wx}
@[simp] theorem qG3 (s : TS) (r : Heap) (x y z u : Option (List V)) (t : Heap) : (Ht HB i L s ++ (r ++ x :: y :: z :: u :: t))[HB.length + (r.length + 3)]? = some u := by
 rw [List.getElem?_append_right (by rw [Ht_len]; omega), Ht_len, List.getElem?_append_right (by omega)]
 have : HB.length + (r.length + 3) - HB.length - r.length = 3 := by omega
 rw [this]; rfl
@[simp] theorem qS3 (s : TS) (r : Heap) (x y z u v : Option (List V)) (t : Heap) : (Ht HB i L s ++ (r ++ x :: y :: z :: u :: t)).set (HB.length + (r.length + 3)) v = Ht HB i L s ++ (r ++ x :: y :: z :: v :: t) := by
 rw [List.set_append_right _ _ (by rw [Ht_len]; omega), Ht_len, List.set_append_right _ _ (by omega)]
 have : HB.length + (r.length + 3) - HB.length - r.length = 3 := by omega
 rw [this]; rfl
theorem qGf (s : TS) (r T : Heap) (a b c z : Option (List V)) : (Ht HB i L s ++ (r ++ a :: b :: c :: (T ++ [z])))[HB.length + (r.length + (T.length + 1 + 1 + 1))]? = some z := by
 rw [List.getElem?_append_right (by rw [Ht_len]; omega), Ht_len, List.getElem?_append_right (by omega)]
 have : HB.length + (r.length + (T.length + 1 + 1 + 1)) - HB.length - r.length = T.length + 3 := by omega
 rw [this]
 show (T ++ [z])[T.length]? = some z
 simp
theorem qSf (s : TS) (r T : Heap) (a b c z u : Option (List V)) : (Ht HB i L s ++ (r ++ a :: b :: c :: (T ++ [z]))).set (HB.length + (r.length + (T.length + 1 + 1 + 1))) u = Ht HB i L s ++ (r ++ a :: b :: c :: (T ++ [u])) := by
 rw [List.set_append_right _ _ (by rw [Ht_len]; omega), Ht_len, List.set_append_right _ _ (by omega)]
 have : HB.length + (r.length + (T.length + 1 + 1 + 1)) - HB.length - r.length = T.length + 3 := by omega
 rw [this]
 show Ht HB i L s ++ (r ++ a :: b :: c :: (T ++ [z]).set T.length u) = _
 simp
end
section
variable {L : List Wx} (hL : L.length ≤ 10000)
include hL
/-- A statement that begins with 'write', behind a fault. -/
theorem rwrite_bad {HB : Heap} {i : Nat} (hi : i < HB.length) {s : PS} {t : TS} (hA : Alk L s t) (hc : ¬ s.clean) {w : Wx} (hw : L[t.at_]? = some w) (hk : w.kind = 4) (hws : w.s = kWrite) (hl : t.at_ + 1 < L.length) (d : Int) :
  ∃ y t', (∀ r, eval tbl noExt n_rt_stmt [.ptr i 0, .int .i64 d] (Ht HB i L t ++ r) = some (.agg (Sm.cells y), Ht HB i L t' ++ r)) ∧ Alk L s t' := by
 have hn := fun r => tnow_eq hi hw r
 have hwc : w.cells = [iw w.kind, .str w.s, iw w.n, iw w.a] := rfl
 rw [hwc, hk, hws] at hn
 have hsim := rsimple_eq kWrite
 have hsr : simR kWrite = 3 := by decide
 rw [hsr] at hsim
 obtain ⟨u, e1, u1, a1⟩ := hA.begin_step hw (fun h => absurd h hc) (by omega) hl (fun h => absurd h hc) d hi
 have haf : afterB s d = s := by unfold afterB; rw [if_neg hc]
 rw [haf] at a1
 have gI := fun r => gHt (L := L) hi u r
 unfold TS.cells at gI
 have hnx := fun r => tnext_eq (L := L) hi u r
 have A := ar_next u.at_ (by omega)
 have hE := rExprs_eq 3 (by omega) (by omega)
 have hlen : s.left.length ≤ 4097 := hA.good.len
 obtain ⟨l', t', e2, a2, _⟩ := rexprs_eq hL 4097 (by omega) hi 3 (by omega) a1 hlen (ti := 3) rfl
 refine ⟨.mk 3 [] 0 l' [] [] false, t', fun r => ?_, a2.back hA.good (exprsG_to 4097 3 [] s hA.good) hc hA.tame⟩
 have hm0 : Sm.rows [] = [] := rfl
 have hn3 : ((nEx 3 : Nat) : Int) = 3 := rfl
 rw [hn3] at hE
 simp only [Sm.cells_mk, hm0]
 rw [eval_M rfl rfl t_rt_stmt rfl]
 simp [-arith, c_rt_stmt, hn, hsim, e1, gI, hnx, A, hE, e2, Ht_len]
variable {HB : Heap} {i : Nat} (hi : i < HB.length)
include hi
theorem rtxn_tail (x xP : Ex) (l lP : List Sm) {s : PS} {t : TS} (hA : Alk L s t) (hx : s.clean → x = xP) (hl : s.clean → l = lP) :
  ∃ y t', (∀ (r T : Heap) (X : Option (List V)) (φ : Fr), Fr.get φ 0 = .ptr i 0 → Fr.get φ 4 = .ptr (HB.length + r.length) 0 → Fr.get φ 6 = .ptr (HB.length + (r.length + 2)) 0 →
   M (eval tbl noExt) [.code r_rt_txn_0, .fin [.cell 4 (some 7)] (HB.length + r.length)] φ (Ht HB i L t ++ (r ++ z7 :: X :: some [.int .i64 16, .str [], .int .i64 0, .sl 4 [Ex.cells x], bodyV l, .sl 7 [], .bool false] :: T)) = some (.agg (Sm.cells y), Ht HB i L t' ++ r)) ∧
   Alk L (txnEnd xP lP s).2 t' ∧ ((txnEnd xP lP s).2.clean → y = (txnEnd xP lP s).1) := by
 obtain ⟨t1, e1, a1, l1⟩ := hA.need_step hL gRb hi
 obtain ⟨e2, a2⟩ := a1.take_step hL kCommit hi
 obtain ⟨t3, e3, a3, l3⟩ := a2.need_step hL gSe hi
 have g1 := wants_to hA.good gRb
 have g2 := takes_to g1.good [kCommit]
 have hk1 : ((s.wants gRb).takes [kCommit]).1 = (s.wants gRb).sees [kCommit] := by unfold PS.takes; split <;> simp_all
 refine ⟨.mk 16 [] 0 [x] l [] ((s.wants gRb).sees [kCommit]).isSome, t3, fun r T X φ g0 g4 g6 => ?_, a3, fun h => ?_⟩
 ·have hr1 : Ex.rows [x] = [x.cells] := rfl
  have hm0 : Sm.rows [] = [] := rfl
  generalize ((s.wants gRb).sees [kCommit]).isSome = b at e2 e3 ⊢
  generalize (if b = true then t1.next else t1) = t2 at e2 e3
  obtain ⟨xo, xn, xt, xl⟩ := x
  simp only [Ex.cells_mk] at hr1 ⊢
  cases l with
  | nil => simp [r_rt_txn_0, g0, g4, g6, e1, e2, e3, hr1, hm0, bodyV, Sm.cells_mk, Ht_len]
  | cons a l => simp [r_rt_txn_0, g0, g4, g6, e1, e2, e3, hr1, hm0, bodyV, Sm.cells_mk, Ht_len]
 ·have hc2 := (wants_to g2.good gSe).clean h
  have hc := g1.clean (g2.clean hc2)
  unfold txnEnd
  dsimp only
  rw [hk1, hx hc, hl hc]
theorem rtxn_loop {stm : SF} {len : Nat} {d : Int} (hW : ∀ w ∈ L, w.kind = 5 → w.s.length ≤ 2) (hto : ∀ d, Goes' (stm d)) (hst : SpecSR L stm len) (x xP : Ex) :
  ∀ (k : Nat) (l lP : List Sm) (s : PS) (t : TS), l.length + k = 8 → Alk L s t → s.left.length ≤ len → (s.clean → 0 ≤ s.st ∧ s.st + (s.left.length : Int) ≤ 5000 ∧ 0 ≤ d ∧ d ≤ 8) → d ≤ 1000 → 0 ≤ d → (s.clean → x = xP) → (s.clean → l = lP) →
   ∃ y t', (∀ (r T : Heap) (X : Option (List V)) (φ : Fr), Fr.get φ 0 = .ptr i 0 → Fr.get φ 1 = .int .i64 d → Fr.get φ 4 = .ptr (HB.length + r.length) 0 → Fr.get φ 6 = .ptr (HB.length + (r.length + 2)) 0 →
    M (eval tbl noExt) [.code l_rt_txn_0, .blk 0, .code r_rt_txn_0, .fin [.cell 4 (some 7)] (HB.length + r.length)] φ (Ht HB i L t ++ (r ++ z7 :: X :: some [.int .i64 16, .str [], .int .i64 0, .sl 4 [Ex.cells x], bodyV l, .sl 7 [], .bool false] :: T)) = some (.agg (Sm.cells y), Ht HB i L t' ++ r)) ∧
   Alk L (txnEnd xP (txnG (stm (d + 1)) k lP s).1 (txnG (stm (d + 1)) k lP s).2).2 t' ∧ ((txnEnd xP (txnG (stm (d + 1)) k lP s).1 (txnG (stm (d + 1)) k lP s).2).2.clean → y = (txnEnd xP (txnG (stm (d + 1)) k lP s).1 (txnG (stm (d + 1)) k lP s).2).1) := by
 intro k
 induction k with
 | zero =>
  intro l lP s t hk hA hl hb hd1 hd0 hx hv
  have i1 := hA.is_step kWrite hi
  unfold txnG
  cases b1 : (s.sees [kWrite]).isSome with
  | false =>
   rw [b1] at i1
   rw [if_neg (by simp)]
   obtain ⟨y, t', e, a, v⟩ := rtxn_tail hL hi x xP l lP hA hx hv
   refine ⟨y, t', fun r T X φ g0 g1 g4 g6 => ?_, a, v⟩
   rw [l_rt_txn_0, M_loop]
   simp [b_rt_txn_0, g0, g1, g4, g6, i1, Ht_len]
   exact e r T X _ (by simp [g0]) (by simp [g4]) (by simp [g6])
  | true =>
   rw [b1] at i1
   rw [if_pos rfl]
   obtain ⟨v0, hv0⟩ := Option.isSome_iff_exists.1 b1
   have hk0 := sees_kind hv0
   have hc := hA.good.tidy hk0.1
   obtain ⟨w, hw, hwh⟩ := hA.word
   have hn := fun r => tnow_eq hi hw r
   have hf := fun r => tfail_eq (L := L) hi t 14 w r
   have hwc : w.cells = [iw w.kind, .str w.s, iw w.n, iw w.a] := rfl
   rw [hwc] at hn hf
   have a1 := hA.failh (show (14 : Int) ≠ 0 by omega) hwh
   have hbd : ¬ (s.fail 14 s.head).clean := fail_dirty (by omega) _
   have hws : w.s = kWrite := by
    have h1 := hk0.2.2
    rw [hk0.2.1] at h1
    rw [hwh hc]; simpa using h1
   have hkind : w.kind = 4 := by
    have h2 : w.kind = 4 ∨ w.kind = 5 := by
     unfold PS.sees at hv0
     split at hv0
     ·rename_i h3; rw [hwh hc]; exact h3.1
     ·cases hv0
    rcases h2 with h2 | h2
    ·exact h2
    ·have := hW w (List.mem_of_getElem? hw) h2
     rw [hws] at this
     exact absurd this (by decide)
   have hend : t.at_ + 1 < L.length := by
    have h2 := hA.good.two hk0.1
    have h3 := (hA.left hc).1
    have h4 : L.length - t.at_ = s.left.length := by rw [← h3, List.length_drop]
    omega
   have hat : (t.fail 14 w).at_ = t.at_ := TS.fail_at _ _ _
   obtain ⟨y1, t2, e2, a2⟩ := rwrite_bad hL hi a1 hbd (w := w) (by rw [hat]; exact hw) hkind hws (by rw [hat]; exact hend) (d + 1)
   obtain ⟨y, t', e, a, v⟩ := rtxn_tail hL hi x xP (l ++ [y1]) lP a2 (fun h => absurd h hbd) (fun h => absurd h hbd)
   refine ⟨y, t', fun r T X φ g0 g1 g4 g6 => ?_, a, v⟩
   have e' := fun φ => e r (T ++ [some (Sm.cells y1)]) X φ
   have i2 := a2.is_step kWrite hi
   have hno : (s.fail 14 s.head).sees [kWrite] = none := by
    cases h : (s.fail 14 s.head).sees [kWrite] with
    | none => rfl
    | some u => exact absurd (a1.good.tidy (sees_kind h).1) hbd
   rw [hno] at i2
   simp at i2
   have A6 := ar_suci d hd0 (by omega)
   have hrl := Sm.rows_ln l
   have hl8 : l.length = 8 := by omega
   have hne : l ≠ [] := fun e => by subst e; simp at hl8
   have hbody : bodyV l = .own 7 (Sm.rows l) := by unfold bodyV; rw [if_neg hne]
   have hbody2 : bodyV (l ++ [y1]) = .own 7 (Sm.rows l ++ [y1.cells]) := by unfold bodyV; rw [if_neg (by simp), Sm.rows_snoc]
   rw [hbody2] at e'
   rw [hbody]
   obtain ⟨y1', y2, y3, y4, y5, y6, y7⟩ := y1
   simp only [Sm.cells_mk] at e2 e'
   rw [l_rt_txn_0, M_loop, ← l_rt_txn_0]
   simp [-arith, b_rt_txn_0, g0, g1, g4, g6, i1, hn, hf, hrl, hl8, A6, e2, Ht_len, qGf, qSf]
   rw [l_rt_txn_0, M_loop]
   simp [-arith, b_rt_txn_0, g0, g1, g4, g6, i2, Ht_len]
   refine e' _ ?_ ?_ ?_ <;> simp [g0, g4, g6]
 | succ k ih =>
  intro l lP s t hk hA hl hb hd1 hd0 hx hv
  have i1 := hA.is_step kWrite hi
  unfold txnG
  cases b1 : (s.sees [kWrite]).isSome with
  | false =>
   rw [b1] at i1
   rw [if_neg (by simp)]
   obtain ⟨y, t', e, a, v⟩ := rtxn_tail hL hi x xP l lP hA hx hv
   refine ⟨y, t', fun r T X φ g0 g1 g4 g6 => ?_, a, v⟩
   rw [l_rt_txn_0, M_loop]
   simp [b_rt_txn_0, g0, g1, g4, g6, i1, Ht_len]
   exact e r T X _ (by simp [g0]) (by simp [g4]) (by simp [g6])
  | true =>
   rw [b1] at i1
   rw [if_pos rfl]
   obtain ⟨v0, hv0⟩ := Option.isSome_iff_exists.1 b1
   have hc := hA.good.tidy (sees_kind hv0).1
   obtain ⟨q1, q2, q3, q4⟩ := hb hc
   obtain ⟨y1, t1, e1, a1, v1⟩ := hst HB i hi s t hA hc hl q1 q2 (d + 1) (by omega) (by omega)
   have gto := hto (d + 1) s hA.good
   have hcnt := gto.cnt
   obtain ⟨y, t', e2, a2, v2⟩ := ih (l ++ [y1]) (lP ++ [(stm (d + 1) s).1]) _ t1 (by simp; omega) a1 (Nat.le_trans gto.len hl) (fun _ => ⟨by omega, by omega, q3, q4⟩) hd1 hd0 (fun h => hx hc) (fun h => by rw [v1 h, hv hc])
   refine ⟨y, t', fun r T X φ g0 g1 g4 g6 => ?_, a2, v2⟩
   have e' := fun φ => e2 r (T ++ [some (Sm.cells y1)]) X φ
   have A6 := ar_suci d hd0 (by omega)
   have hrl := Sm.rows_ln l
   have hl8 : ¬ l.length = 8 := by omega
   have hl8' : ¬ (l.length : Int) = 8 := by omega
   have hcap : 2 * (l.length + 1) * 112 ≤ 281474976710656 := by omega
   have hbody2 : bodyV (l ++ [y1]) = .own 7 (Sm.rows l ++ [y1.cells]) := by unfold bodyV; rw [if_neg (by simp), Sm.rows_snoc]
   rw [hbody2] at e'
   obtain ⟨y1', y2, y3, y4, y5, y6, y7⟩ := y1
   simp only [Sm.cells_mk] at e1 e'
   rw [l_rt_txn_0, M_loop, ← l_rt_txn_0]
   cases l with
   | nil =>
    have hb0 : bodyV [] = .nils 7 := rfl
    have hm0 : Sm.rows [] = [] := rfl
    rw [hb0]
    rw [hm0] at e'
    simp [-arith, b_rt_txn_0, g0, g1, g4, g6, i1, A6, e1, hm0, Ht_len, qGf, qSf]
    refine e' _ ?_ ?_ ?_ ?_ <;> simp [g0, g1, g4, g6]
   | cons a l =>
    have hb0 : bodyV (a :: l) = .own 7 (Sm.rows (a :: l)) := rfl
    rw [hb0]
    generalize Sm.rows (a :: l) = R at e' hrl ⊢
    generalize a :: l = M' at e' hrl hk hcap hl8 hl8' ⊢
    simp [-arith, b_rt_txn_0, g0, g1, g4, g6, i1, hrl, hl8, hl8', hcap, A6, e1, Ht_len, qGf, qSf]
    refine e' _ ?_ ?_ ?_ ?_ <;> simp [g0, g1, g4, g6]
theorem rtxn_eq {stm : SF} {len : Nat} {d : Int} (hlen : len ≤ 4097) (hW : ∀ w ∈ L, w.kind = 5 → w.s.length ≤ 2) (hto : ∀ d, Goes' (stm d)) (hst : SpecSR L stm len) {s : PS} {t : TS} (hA : Alk L s t) (hl : s.left.length ≤ len) (hb : s.clean → 0 ≤ s.st ∧ s.st + (s.left.length : Int) ≤ 5000 ∧ 0 ≤ d ∧ d ≤ 8) (hd1 : d ≤ 1000) (hd0 : 0 ≤ d) :
  ∃ y t', (∀ r, eval tbl noExt n_rt_txn [.ptr i 0, .int .i64 d] (Ht HB i L t ++ r) = some (.agg (Sm.cells y), Ht HB i L t' ++ r)) ∧ Alk L (txnP stm len d s).2 t' ∧ ((txnP stm len d s).2.clean → y = (txnP stm len d s).1) := by
 obtain ⟨x, t1, e1, a1, v1, l1⟩ := rwhole_eq hL gLb (by simp) len hlen hi (x := .own 1 [tx gLb]) (.inr rfl) hA hl
 have g1 := wholeP_to gLb len s hA.good
 obtain ⟨t2, e2, a2, l2⟩ := a1.need_step hL gLb hi
 have g2 := g1.trans (wants_to a1.good gLb)
 have hcnt := g2.cnt
 show ∃ y t', (∀ r, eval tbl noExt n_rt_txn [.ptr i 0, .int .i64 d] (Ht HB i L t ++ r) = some (.agg (Sm.cells y), Ht HB i L t' ++ r)) ∧ Alk L (txnEnd (wholeP gLb len s).1 (txnG (stm (d + 1)) 8 [] ((wholeP gLb len s).2.wants gLb)).1 (txnG (stm (d + 1)) 8 [] ((wholeP gLb len s).2.wants gLb)).2).2 t' ∧ ((txnEnd (wholeP gLb len s).1 (txnG (stm (d + 1)) 8 [] ((wholeP gLb len s).2.wants gLb)).1 (txnG (stm (d + 1)) 8 [] ((wholeP gLb len s).2.wants gLb)).2).2.clean → y = (txnEnd (wholeP gLb len s).1 (txnG (stm (d + 1)) 8 [] ((wholeP gLb len s).2.wants gLb)).1 (txnG (stm (d + 1)) 8 [] ((wholeP gLb len s).2.wants gLb)).2).1)
 obtain ⟨y, t', e3, a3, v3⟩ := rtxn_loop hL hi (d := d) hW hto hst x (wholeP gLb len s).1 8 [] [] _ t2 rfl a2 (Nat.le_trans g2.len hl) (fun h => by have := hb (g2.clean h); omega) hd1 hd0 (fun h => v1 ((wants_to a1.good gLb).clean h)) (fun _ => rfl)
 refine ⟨y, t', fun r => ?_, a3, v3⟩
 have e4 := fun X φ => e3 r [] X φ
 have hb0 : bodyV [] = .nils 7 := rfl
 rw [hb0] at e4
 obtain ⟨xo, xn, xt, xl⟩ := x
 simp only [Ex.cells_mk, tx] at e1 e4
 rw [eval_M rfl rfl t_rt_txn rfl]
 simp [-arith, c_rt_txn, e1, e2, Ht_len]
 refine e4 _ _ ?_ ?_ ?_ ?_ <;> simp
end
set_option maxHeartbeats 8000000
theorem simR_some {w : Wx} (hk : w.kind = 4) (h : 0 < simR w.s) : simpleP w = some (simR w.s) ∧ 1 ≤ simR w.s ∧ simR w.s ≤ 18 ∧ nEx (simR w.s) ≠ 0 := by
 unfold simR at h ⊢
 unfold simpleP
 rw [if_pos hk]
 by_cases a0 : w.s = kCreate
 ·simp only [if_pos a0]; decide
 simp only [if_neg a0] at h ⊢
 by_cases a1 : w.s = kMkdir
 ·simp only [if_pos a1]; decide
 simp only [if_neg a1] at h ⊢
 by_cases a2 : w.s = kWrite
 ·simp only [if_pos a2]; decide
 simp only [if_neg a2] at h ⊢
 by_cases a3 : w.s = kAppend
 ·simp only [if_pos a3]; decide
 simp only [if_neg a3] at h ⊢
 by_cases a4 : w.s = kTruncate
 ·simp only [if_pos a4]; decide
 simp only [if_neg a4] at h ⊢
 by_cases a5 : w.s = kRename
 ·simp only [if_pos a5]; decide
 simp only [if_neg a5] at h ⊢
 by_cases a6 : w.s = kUnlink
 ·simp only [if_pos a6]; decide
 simp only [if_neg a6] at h ⊢
 by_cases a7 : w.s = kFsync
 ·simp only [if_pos a7]; decide
 simp only [if_neg a7] at h ⊢
 by_cases a8 : w.s = kFdatasync
 ·simp only [if_pos a8]; decide
 simp only [if_neg a8] at h ⊢
 by_cases a9 : w.s = kSyncdir
 ·simp only [if_pos a9]; decide
 simp only [if_neg a9] at h ⊢
 by_cases a10 : w.s = kReplay
 ·simp only [if_pos a10]; decide
 simp only [if_neg a10] at h ⊢
 by_cases a11 : w.s = kAssert
 ·simp only [if_pos a11]; decide
 simp only [if_neg a11] at h ⊢
 exact absurd h (by omega)
theorem simR_none {w : Wx} (hk : w.kind = 4) (h : ¬ 0 < simR w.s) : simpleP w = if w.s = kBarrier then some 11 else none := by
 unfold simR at h
 unfold simpleP
 rw [if_pos hk]
 by_cases a0 : w.s = kCreate
 ·simp only [if_pos a0] at h; exact absurd (by decide) h
 simp only [if_neg a0] at h ⊢
 by_cases a1 : w.s = kMkdir
 ·simp only [if_pos a1] at h; exact absurd (by decide) h
 simp only [if_neg a1] at h ⊢
 by_cases a2 : w.s = kWrite
 ·simp only [if_pos a2] at h; exact absurd (by decide) h
 simp only [if_neg a2] at h ⊢
 by_cases a3 : w.s = kAppend
 ·simp only [if_pos a3] at h; exact absurd (by decide) h
 simp only [if_neg a3] at h ⊢
 by_cases a4 : w.s = kTruncate
 ·simp only [if_pos a4] at h; exact absurd (by decide) h
 simp only [if_neg a4] at h ⊢
 by_cases a5 : w.s = kRename
 ·simp only [if_pos a5] at h; exact absurd (by decide) h
 simp only [if_neg a5] at h ⊢
 by_cases a6 : w.s = kUnlink
 ·simp only [if_pos a6] at h; exact absurd (by decide) h
 simp only [if_neg a6] at h ⊢
 by_cases a7 : w.s = kFsync
 ·simp only [if_pos a7] at h; exact absurd (by decide) h
 simp only [if_neg a7] at h ⊢
 by_cases a8 : w.s = kFdatasync
 ·simp only [if_pos a8] at h; exact absurd (by decide) h
 simp only [if_neg a8] at h ⊢
 by_cases a9 : w.s = kSyncdir
 ·simp only [if_pos a9] at h; exact absurd (by decide) h
 simp only [if_neg a9] at h ⊢
 by_cases a10 : w.s = kReplay
 ·simp only [if_pos a10] at h; exact absurd (by decide) h
 simp only [if_neg a10] at h ⊢
 by_cases a11 : w.s = kAssert
 ·simp only [if_pos a11] at h; exact absurd (by decide) h
 simp only [if_neg a11] at h ⊢
/-- From what a statement's words answer to what the statement does. -/
theorem stmt_fin {L : List Wx} {stm : SF} {len : Nat} {d : Int} {s : PS} (hs : s.good) (hc : s.clean) {f : PS → Sm × PS} (hf : Goes' f)
  (h1 : stmtB stm len d s = if 256 < s.st + 1 ∨ 8 < d then (zm, PS.fail ⟨s.left, s.fe, s.fa, s.st + 1, s.o⟩ 14 s.head) else f (PS.skip ⟨s.left, s.fe, s.fa, s.st + 1, s.o⟩))
  {x : Sm} {t' : TS} (ha : Alk L (f (afterB s d)).2 t') (hv : (f (afterB s d)).2.clean → x = (f (afterB s d)).1) : Alk L (stmtB stm len d s).2 t' ∧ ((stmtB stm len d s).2.clean → x = (stmtB stm len d s).1) := by
 unfold afterB at ha hv
 rw [if_pos hc] at ha hv
 rw [h1]
 by_cases hlim : 256 < s.st + 1 ∨ 8 < d
 ·rw [if_pos hlim] at ha hv ⊢
  have hg := (fail_to (st_good hs (s.st + 1)) (show (14 : Int) ≠ 0 by omega) s.head).good
  have hcl : PS.clean ⟨s.left, s.fe, s.fa, s.st + 1, s.o⟩ := hc
  refine ⟨ha.back hg (hf _ hg) (fail_dirty (by omega) _) (fun h => ?_), fun h => absurd h (fail_dirty (by omega) _)⟩
  have : (if PS.clean ⟨s.left, s.fe, s.fa, s.st + 1, s.o⟩ then (14 : Int) else s.fe) = 0 := h
  rw [if_pos hcl] at this
  exact absurd this (by decide)
 ·rw [if_neg hlim] at ha hv ⊢
  exact ⟨ha, hv⟩
theorem afterB_left {s : PS} {d : Int} (hs : s.good) (hk : s.head.kind ≠ 0) {len : Nat} (hl : s.left.length ≤ len + 1) : (afterB s d).left.length ≤ len := by
 have h2 := hs.two hk
 unfold afterB
 split
 ·split
  ·simp [PS.fail]; omega
  ·rw [skip_two (show 1 < (PS.mk s.left s.fe s.fa (s.st + 1) s.o).left.length from h2)]
   simp only [List.length_tail]; omega
 ·rename_i hc
  have := hs.fault hc
  omega
theorem afterB_st {s : PS} {d : Int} (hs : s.good) (hk : s.head.kind ≠ 0) (hc : (afterB s d).clean) : (afterB s d).st = s.st + 1 ∧ (afterB s d).left.length + 1 = s.left.length ∧ d ≤ 8 := by
 have h2 := hs.two hk
 unfold afterB at hc ⊢
 by_cases hsc : s.clean
 ·rw [if_pos hsc] at hc ⊢
  by_cases hlim : 256 < s.st + 1 ∨ 8 < d
  ·rw [if_pos hlim] at hc; exact absurd hc (fail_dirty (by omega) _)
  ·rw [if_neg hlim]
   rw [skip_two (show 1 < (PS.mk s.left s.fe s.fa (s.st + 1) s.o).left.length from h2)]
   refine ⟨rfl, by simp only [List.length_tail]; omega, by omega⟩
 ·rw [if_neg hsc] at hc; exact absurd hc hsc
section
variable {L : List Wx} (hL : L.length ≤ 10000) (hW : ∀ w ∈ L, w.kind = 5 → w.s.length ≤ 2) {stm : SF} {len : Nat} (hlen : len + 1 ≤ 4097) (hto : ∀ d, Goes' (stm d)) (hst : SpecSR L stm len) (hless : 1 ≤ len → Less stm)
include hL hW hlen hto hst hless
theorem rstmtB_eq : SpecSR L (stmtB stm len) (len + 1) := by
 intro HB i hi s t hA hc hl h0 hb d hd0 hd9
 obtain ⟨w, hw, hwh⟩ := hA.word
 have hwe := hwh hc
 have hn := fun r => tnow_eq hi hw r
 have hf := fun r => tfail_eq (L := L) hi t 12 w r
 have hwc : w.cells = [iw w.kind, .str w.s, iw w.n, iw w.a] := rfl
 rw [hwc] at hn hf
 have hsim := rsimple_eq w.s
 have iB := hA.is_step kBarrier hi
 have iL := hA.is_step kLet hi
 have iC := hA.is_step kCall hi
 have iI := hA.is_step kIf hi
 have iR := hA.is_step kRepeat hi
 have iT := hA.is_step kTxn hi
 have hr0 : Ex.rows [] = [] := rfl
 have hr1 : ∀ a : Ex, Ex.rows [a] = [a.cells] := fun a => rfl
 have hm0 : Sm.rows [] = [] := rfl
 have A6 := ar_suci d hd0 (by omega)
 have hend : w.kind ≠ 0 → t.at_ + 1 < L.length := fun hk => by
  have h2 := hA.good.two (by rw [← hwe]; exact hk)
  have h3 := (hA.left hc).1
  have h4 : L.length - t.at_ = s.left.length := by rw [← h3, List.length_drop]
  omega
 have hbg := fun hk => hA.begin_step hw hwh hk (hend hk) (fun _ => ⟨h0, by omega⟩) d hi
 have hAn : ∀ u : TS, u.at_ = t.at_ → arith .add .i64 (u.at_ : Int) 1 = some (.int .i64 ((u.at_ : Int) + 1)) := fun u hu => ar_next u.at_ (by have := hA.lt; omega)
 have hsB : ∀ q, (simpleP s.head = some q ∨ ∃ v, s.sees [kLet, kCall, kIf, kRepeat, kTxn] = some v) → stmtB stm len d s = if 256 < s.st + 1 ∨ 8 < d then (zm, PS.fail ⟨s.left, s.fe, s.fa, s.st + 1, s.o⟩ 14 s.head) else (match s.sees [kLet, kCall, kIf, kRepeat, kTxn] with
   | none => (.mk ((simpleP s.head).getD 0) [] 0 (exprsP len ((simpleP s.head).getD 0) (PS.skip ⟨s.left, s.fe, s.fa, s.st + 1, s.o⟩)).1 [] [] false, (exprsP len ((simpleP s.head).getD 0) (PS.skip ⟨s.left, s.fe, s.fa, s.st + 1, s.o⟩)).2)
   | some t => if t = kLet then letP len (PS.skip ⟨s.left, s.fe, s.fa, s.st + 1, s.o⟩) else if t = kCall then callP len (PS.skip ⟨s.left, s.fe, s.fa, s.st + 1, s.o⟩) else if t = kIf then choiceP stm len d (PS.skip ⟨s.left, s.fe, s.fa, s.st + 1, s.o⟩) else if t = kRepeat then loopP stm len d (PS.skip ⟨s.left, s.fe, s.fa, s.st + 1, s.o⟩) else txnP stm len d (PS.skip ⟨s.left, s.fe, s.fa, s.st + 1, s.o⟩)) := by
  intro q hq
  unfold stmtB
  dsimp only
  have hno : ¬ ((simpleP s.head).isNone = true ∧ (s.sees [kLet, kCall, kIf, kRepeat, kTxn]).isNone = true) := by
   rintro ⟨h1, h2⟩
   rcases hq with hq | ⟨v, hq⟩
   ·rw [hq] at h1; cases h1
   ·rw [hq] at h2; cases h2
  rw [if_neg hno]
  rfl
 by_cases hk4 : w.kind = 4 ∧ 0 < simR w.s
 ·obtain ⟨k4, hpos⟩ := hk4
  obtain ⟨p1, p2, p3, p4⟩ := simR_some k4 hpos
  have hsn : s.sees [kLet, kCall, kIf, kRepeat, kTxn] = none := by
   cases ho : s.sees [kLet, kCall, kIf, kRepeat, kTxn] with
   | none => rfl
   | some v =>
    have hm := sees_kind ho
    have := simple_none (w := w) (v := v) (by rw [hwe]; exact hm.2.1.symm) (by simpa only [List.mem_cons, List.not_mem_nil, or_false] using hm.2.2)
    rw [this] at p1; cases p1
  have hP := hsB (simR w.s) (.inl (by rw [← hwe]; exact p1))
  rw [hsn, ← hwe, p1] at hP
  simp only [Option.getD_some] at hP
  obtain ⟨op, hop⟩ : ∃ op, op = simR w.s := ⟨_, rfl⟩
  rw [← hop] at hsim hpos p2 p3 p4 hP
  obtain ⟨u, e1, u1, a1⟩ := hbg (by omega)
  have gI := fun r => gHt (L := L) hi u r
  unfold TS.cells at gI
  have hnx := fun r => tnext_eq (L := L) hi u r
  have A := hAn u u1
  have hE := rExprs_eq op p2 p3
  have hks : s.head.kind ≠ 0 := by rw [← hwe]; omega
  obtain ⟨l', t', e2, a2, v2⟩ := rexprs_eq hL len (by omega) hi (nEx op) (nEx_le op) a1 (afterB_left hA.good hks hl) rfl
  have hex : ∀ q, exprsP len op q = exprsG len (nEx op) [] q := fun q => by unfold exprsP; rw [if_neg p4]
  have hfin := stmt_fin (L := L) (f := fun q => (.mk op [] 0 (exprsP len op q).1 [] [] false, (exprsP len op q).2)) hA.good hc (fun q hq => exprsP_to len op q hq) (by rw [hP, hwe]) (x := .mk op [] 0 l' [] [] false) (t' := t') (by rw [hex]; exact a2) (fun h => by rw [hex] at h ⊢; rw [v2 h])
  refine ⟨_, t', fun r => ?_, hfin⟩
  simp only [Sm.cells_mk, hm0]
  rw [eval_M rfl rfl t_rt_stmt rfl]
  simp [-arith, c_rt_stmt, hn, hsim, k4, hpos, e1, gI, hnx, A, hE, e2, Ht_len]
 by_cases hx : (w.kind = 4 ∨ w.kind = 5) ∧ (w.s = kBarrier ∨ w.s = kLet ∨ w.s = kCall ∨ w.s = kIf ∨ w.s = kRepeat ∨ w.s = kTxn)
 case neg =>
  have hnone : simpleP s.head = none ∧ s.sees [kLet, kCall, kIf, kRepeat, kTxn] = none ∧ (∀ k, k = kBarrier ∨ k = kLet ∨ k = kCall ∨ k = kIf ∨ k = kRepeat ∨ k = kTxn → s.sees [k] = none) := by
   refine ⟨?_, ?_, ?_⟩
   ·rw [← hwe]
    by_cases k4 : w.kind = 4
    ·have h1 : ¬ 0 < simR w.s := fun h => hk4 ⟨k4, h⟩
     rw [simR_none k4 h1, if_neg]
     exact fun h => hx ⟨.inl k4, .inl h⟩
    ·unfold simpleP; rw [if_neg k4]
   ·unfold PS.sees
    rw [if_neg]
    rintro ⟨h1, h2⟩
    rw [← hwe] at h1 h2
    simp only [List.mem_cons, List.not_mem_nil, or_false] at h2
    exact hx ⟨h1, .inr h2⟩
   ·intro k hk
    unfold PS.sees
    rw [if_neg]
    rintro ⟨h1, h2⟩
    rw [← hwe] at h1 h2
    simp only [List.mem_cons, List.not_mem_nil, or_false] at h2
    exact hx ⟨h1, by rw [h2]; exact hk⟩
  obtain ⟨n1, n2, n3⟩ := hnone
  rw [n3 _ (by simp)] at iB iL iC iI iR iT
  simp at iB iL iC iI iR iT
  have hP : stmtB stm len d s = (zm, s.fail 12 s.head) := by
   unfold stmtB
   dsimp only
   rw [if_pos ⟨by rw [n1]; rfl, by rw [n2]; rfl⟩]
  rw [hP]
  refine ⟨zm, t.fail 12 w, fun r => ?_, by rw [← hwe]; exact hA.fail (by omega) w, fun _ => rfl⟩
  have hzm : zm.cells = [.int .i64 0, .str [], .int .i64 0, .sl 4 [], .sl 7 [], .sl 7 [], .bool false] := rfl
  rw [hzm]
  rw [eval_M rfl rfl t_rt_stmt rfl]
  by_cases hpos : 0 < simR w.s
  ·have k4 : ¬ w.kind = 4 := fun h => hk4 ⟨h, hpos⟩
   simp [-arith, c_rt_stmt, hn, hsim, k4, hpos, iB, iL, iC, iI, iR, iT, hf, Ht_len]
  ·simp [-arith, c_rt_stmt, hn, hsim, hpos, iB, iL, iC, iI, iR, iT, hf, Ht_len]
 obtain ⟨k45, hx⟩ := hx
 have hkw : w.kind ≠ 0 := by rcases k45 with h | h <;> omega
 have hks : s.head.kind ≠ 0 := by rw [← hwe]; exact hkw
 have hse : ∀ k, (s.sees [k]).isSome = decide (w.s = k) := fun k => by
  unfold PS.sees
  rw [← hwe]
  by_cases h : w.s = k
  ·rw [if_pos ⟨k45, by simp [h]⟩]; simp [h]
  ·rw [if_neg (fun h1 => h (by simpa using h1.2))]; simp [h]
 rw [hse] at iB iL iC iI iR iT
 obtain ⟨u, e1, u1, a1⟩ := hbg hkw
 have gI := fun r => gHt (L := L) hi u r
 unfold TS.cells at gI
 have hnx := fun r => tnext_eq (L := L) hi u r
 have A := hAn u u1
 have hla := afterB_left (d := d) hA.good hks hl
 have hlen1 : 1 ≤ len := by have := hA.good.two hks; omega
 have hls := hless hlen1
 have hcl : (afterB s d).clean → 0 ≤ (afterB s d).st ∧ (afterB s d).st + ((afterB s d).left.length : Int) ≤ 5000 ∧ d ≤ 8 := fun h => by
  have := afterB_st hA.good hks h
  omega
 have hsv : ∀ v, w.s = v → v = kLet ∨ v = kCall ∨ v = kIf ∨ v = kRepeat ∨ v = kTxn → s.sees [kLet, kCall, kIf, kRepeat, kTxn] = some v := fun v hv hm => by
  unfold PS.sees
  rw [← hwe, if_pos ⟨k45, by rw [hv]; simpa only [List.mem_cons, List.not_mem_nil, or_false] using hm⟩, hv]
 rcases hx with hx | hx | hx | hx | hx | hx
 ·-- barrier
  have k4 : w.kind = 4 := by
   rcases k45 with h | h
   ·exact h
   ·have := hW w (List.mem_of_getElem? hw) h
    rw [hx] at this
    exact absurd this (by decide)
  rw [hx] at hsim iB iL iC iI iR iT
  have hsr : simR kBarrier = 0 := by decide
  rw [hsr] at hsim
  simp at iB iL iC iI iR iT
  have hp : simpleP s.head = some 11 := by
   rw [← hwe, simR_none k4 (by rw [hx, hsr]; omega), if_pos hx]
  have hsn : s.sees [kLet, kCall, kIf, kRepeat, kTxn] = none := by
   unfold PS.sees
   rw [if_neg]
   rintro ⟨_, h2⟩
   rw [← hwe, hx] at h2
   revert h2; decide
  have hP := hsB 11 (.inl hp)
  rw [hsn, hp] at hP
  simp only [Option.getD_some] at hP
  obtain ⟨t', e2, a2, l2⟩ := a1.need_step hL gSe hi
  have hex : ∀ q, exprsP len 11 q = ([], q.wants gSe) := fun q => by unfold exprsP; rw [if_pos (by decide)]
  have hfin := stmt_fin (L := L) (f := fun q => (.mk 11 [] 0 (exprsP len 11 q).1 [] [] false, (exprsP len 11 q).2)) hA.good hc (fun q hq => exprsP_to len 11 q hq) hP (x := .mk 11 [] 0 [] [] [] false) (t' := t') (by rw [hex]; exact a2) (fun h => by rw [hex])
  refine ⟨_, t', fun r => ?_, hfin⟩
  simp only [Sm.cells_mk, hm0, hr0]
  rw [eval_M rfl rfl t_rt_stmt rfl]
  simp [-arith, c_rt_stmt, hn, hx, hsim, k4, iB, e1, gI, hnx, A, e2, Ht_len]
 ·-- let
  rw [hx] at hsim iB iL iC iI iR iT
  have hsr : simR kLet = 0 := by decide
  rw [hsr] at hsim
  simp at iB iL iC iI iR iT
  have hP := hsB 0 (.inr ⟨kLet, hsv _ hx (by simp)⟩)
  rw [hsv _ hx (by simp)] at hP
  simp only [if_true] at hP
  obtain ⟨t1, e2, a2, l2⟩ := a1.kind_step hL (show (1 : Int) ≠ 0 by omega) hi
  obtain ⟨t2, e3, a3, l3⟩ := a2.need_step hL [61] hi
  have g2 := of_to a1.good 1
  have g3 := g2.trans (wants_to a2.good [61])
  obtain ⟨l', t', e4, a4, v4⟩ := rexprs_eq hL len (by omega) hi 1 (by omega) a3 (Nat.le_trans g3.len hla) (ti := 1) rfl
  have hex : ∀ q, exprsP len 12 q = exprsG len 1 [] q := fun q => by unfold exprsP; rw [if_neg (by decide)]; rfl
  obtain ⟨v, hv⟩ : ∃ v, v = ((afterB s d).of 1).1 := ⟨_, rfl⟩
  have hfin := stmt_fin (L := L) (f := letP len) hA.good hc (letP_to len) hP (x := .mk 12 v.s 0 l' [] [] false) (t' := t') (by unfold letP; dsimp only; rw [hex]; exact a4) (fun h => by unfold letP at h ⊢; dsimp only at h ⊢; rw [hex] at h ⊢; rw [v4 h, hv])
  refine ⟨_, t', fun r => ?_, hfin⟩
  rw [← hv] at e2
  have hvc : v.cells = [iw v.kind, .str v.s, iw v.n, iw v.a] := rfl
  rw [hvc] at e2
  simp only [Sm.cells_mk, hm0]
  rw [eval_M rfl rfl t_rt_stmt rfl]
  simp [-arith, c_rt_stmt, hn, hx, hsim, iB, iL, e1, gI, hnx, A, e2, e3, e4, Ht_len]
 ·-- call
  rw [hx] at hsim iB iL iC iI iR iT
  have hsr : simR kCall = 0 := by decide
  rw [hsr] at hsim
  simp at iB iL iC iI iR iT
  have hP := hsB 0 (.inr ⟨kCall, hsv _ hx (by simp)⟩)
  rw [hsv _ hx (by simp)] at hP
  dsimp only at hP
  rw [if_neg (show ¬ kCall = kLet by decide), if_pos rfl] at hP
  obtain ⟨t1, e2, a2, l2⟩ := a1.kind_step hL (show (1 : Int) ≠ 0 by omega) hi
  obtain ⟨t', e3, a3, l3⟩ := a2.need_step hL gSe hi
  have hex : ∀ q, exprsP len 15 q = ([], q.wants gSe) := fun q => by unfold exprsP; rw [if_pos (by decide)]
  obtain ⟨v, hv⟩ : ∃ v, v = ((afterB s d).of 1).1 := ⟨_, rfl⟩
  have hfin := stmt_fin (L := L) (f := callP len) hA.good hc (callP_to len) hP (x := .mk 15 v.s 0 [] [] [] false) (t' := t') (by unfold callP; dsimp only; rw [hex]; exact a3) (fun h => by unfold callP; dsimp only; rw [hex, hv])
  refine ⟨_, t', fun r => ?_, hfin⟩
  rw [← hv] at e2
  have hvc : v.cells = [iw v.kind, .str v.s, iw v.n, iw v.a] := rfl
  rw [hvc] at e2
  simp only [Sm.cells_mk, hm0, hr0]
  rw [eval_M rfl rfl t_rt_stmt rfl]
  simp [-arith, c_rt_stmt, hn, hx, hsim, iB, iL, iC, e1, gI, hnx, A, e2, e3, Ht_len]
 ·-- if
  rw [hx] at hsim iB iL iC iI iR iT
  have hsr : simR kIf = 0 := by decide
  rw [hsr] at hsim
  simp at iB iL iC iI iR iT
  have hP := hsB 0 (.inr ⟨kIf, hsv _ hx (by simp)⟩)
  rw [hsv _ hx (by simp)] at hP
  dsimp only at hP
  rw [if_neg (show ¬ kIf = kLet by decide), if_neg (show ¬ kIf = kCall by decide), if_pos rfl] at hP
  obtain ⟨x, t1, e2, a2, v2, l2⟩ := rwhole_eq hL gLb (by simp) len (by omega) hi (x := .own 1 [tx gLb]) (.inr rfl) a1 hla
  have g2 := wholeP_to gLb len _ a1.good
  have c2 := g2.cnt
  obtain ⟨b, t2, e3, a3, v3⟩ := rblock_eq hL hto hst hls hi (by omega) (d + 1) a2 (Nat.le_trans g2.len hla) (fun h => by have := hcl (g2.clean h); omega)
  have g3 := blockP_to (hto (d + 1)) len _ a2.good
  have c3 := g3.cnt
  obtain ⟨e4, a4⟩ := a3.take_step hL kElse hi
  have hs1 := sees_one (s := (blockP stm len (d + 1) (wholeP gLb len (afterB s d)).2).2) (a := kElse)
  cases bE : ((blockP stm len (d + 1) (wholeP gLb len (afterB s d)).2).2.sees [kElse]).isSome with
  | false =>
   rw [bE] at hs1
   simp only [bE] at e4
   simp at e4
   have htk := takes_of hs1
   have hfin := stmt_fin (L := L) (f := choiceP stm len d) hA.good hc (choiceP_to (hto (d + 1)) len) hP (x := .mk 13 [] 0 [x] b [] false) (t' := t2) (by unfold choiceP; dsimp only; rw [htk]; exact a3) (fun h => by
    unfold choiceP at h ⊢
    dsimp only at h ⊢
    rw [htk] at h ⊢
    have h' : (blockP stm len (d + 1) (wholeP gLb len (afterB s d)).2).2.clean := h
    rw [v3 h', v2 (g3.clean h')]; rfl)
   refine ⟨_, t2, fun r => ?_, hfin⟩
   simp only [Sm.cells_mk, hm0, hr1]
   obtain ⟨xo, xn, xt, xl⟩ := x
   simp only [Ex.cells_mk, tx] at e2 ⊢
   rw [eval_M rfl rfl t_rt_stmt rfl]
   simp [-arith, c_rt_stmt, hn, hx, hsim, iB, iL, iC, iI, e1, gI, hnx, A, A6, e2, e3, e4, Ht_len]
  | true =>
   rw [bE] at hs1
   simp only [bE, if_true] at e4 a4
   have htk := takes_of hs1
   have a5 := a3.skip (sees_kind hs1).1
   have g5 := skip_to a3.good (sees_kind hs1).1
   have c5 := g5.cnt
   obtain ⟨c, t3, e5, a6, v6⟩ := rblock_eq hL hto hst hls hi (by omega) (d + 1) a5 (Nat.le_trans g5.len (Nat.le_trans g3.len (Nat.le_trans g2.len hla))) (fun h => by have := hcl (g2.clean (g3.clean (g5.clean h))); omega)
   have g6 := blockP_to (hto (d + 1)) len _ a5.good
   have hfin := stmt_fin (L := L) (f := choiceP stm len d) hA.good hc (choiceP_to (hto (d + 1)) len) hP (x := .mk 13 [] 0 [x] b c false) (t' := t3) (by unfold choiceP; dsimp only; rw [htk]; exact a6) (fun h => by
    unfold choiceP at h ⊢
    dsimp only at h ⊢
    rw [htk] at h ⊢
    have h' : (blockP stm len (d + 1) (blockP stm len (d + 1) (wholeP gLb len (afterB s d)).2).2.skip).2.clean := h
    have h2 := g5.clean (g6.clean h')
    show _ = Sm.mk 13 [] 0 [(wholeP gLb len (afterB s d)).1] _ (blockP stm len (d + 1) (blockP stm len (d + 1) (wholeP gLb len (afterB s d)).2).2.skip).1 false
    rw [v6 h', v3 h2, v2 (g3.clean h2)])
   refine ⟨_, t3, fun r => ?_, hfin⟩
   simp only [Sm.cells_mk, hm0, hr1]
   obtain ⟨xo, xn, xt, xl⟩ := x
   simp only [Ex.cells_mk, tx] at e2 ⊢
   rw [eval_M rfl rfl t_rt_stmt rfl]
   simp [-arith, c_rt_stmt, hn, hx, hsim, iB, iL, iC, iI, e1, gI, hnx, A, A6, e2, e3, e4, e5, Ht_len]
 ·-- repeat
  rw [hx] at hsim iB iL iC iI iR iT
  have hsr : simR kRepeat = 0 := by decide
  rw [hsr] at hsim
  simp at iB iL iC iI iR iT
  have hP := hsB 0 (.inr ⟨kRepeat, hsv _ hx (by simp)⟩)
  rw [hsv _ hx (by simp)] at hP
  dsimp only at hP
  rw [if_neg (show ¬ kRepeat = kLet by decide), if_neg (show ¬ kRepeat = kCall by decide), if_neg (show ¬ kRepeat = kIf by decide), if_pos rfl] at hP
  obtain ⟨t1, e2, a2, l2⟩ := a1.kind_step hL (show (2 : Int) ≠ 0 by omega) hi
  have g2 := of_to a1.good 2
  obtain ⟨v, hv⟩ : ∃ v, v = ((afterB s d).of 2).1 := ⟨_, rfl⟩
  rw [← hv] at e2
  have hvc : v.cells = [iw v.kind, .str v.s, iw v.n, iw v.a] := rfl
  by_cases h16 : 16 < v.n
  ·have a3 := a2.fail (show (14 : Int) ≠ 0 by omega) v
   have g3 := g2.trans (fail_to a2.good (show (14 : Int) ≠ 0 by omega) v)
   have e3 := fun r => tfail_eq (L := L) hi t1 14 v r
   obtain ⟨b, t', e4, a4, v4⟩ := rblock_eq hL hto hst hls hi (by omega) (d + 1) a3 (Nat.le_trans g3.len hla) (fun h => absurd h (fail_dirty (by omega) _))
   have hfin := stmt_fin (L := L) (f := loopP stm len d) hA.good hc (loopP_to (hto (d + 1)) len) hP (x := .mk 14 [] v.n [] b [] false) (t' := t') (by unfold loopP; dsimp only; rw [← hv, if_pos h16]; exact a4) (fun h => by
    unfold loopP at h ⊢
    dsimp only at h ⊢
    rw [← hv, if_pos h16] at h ⊢
    rw [v4 h])
   refine ⟨_, t', fun r => ?_, hfin⟩
   rw [hvc] at e2 e3
   simp only [Sm.cells_mk, hm0, hr0]
   rw [eval_M rfl rfl t_rt_stmt rfl]
   simp [-arith, c_rt_stmt, hn, hx, hsim, iB, iL, iC, iI, iR, e1, gI, hnx, A, A6, e2, e3, e4, h16, Ht_len]
  ·obtain ⟨b, t', e4, a4, v4⟩ := rblock_eq hL hto hst hls hi (by omega) (d + 1) a2 (Nat.le_trans g2.len hla) (fun h => by have := g2.cnt; have := hcl (g2.clean h); omega)
   have hfin := stmt_fin (L := L) (f := loopP stm len d) hA.good hc (loopP_to (hto (d + 1)) len) hP (x := .mk 14 [] v.n [] b [] false) (t' := t') (by unfold loopP; dsimp only; rw [← hv, if_neg h16]; exact a4) (fun h => by
    unfold loopP at h ⊢
    dsimp only at h ⊢
    rw [← hv, if_neg h16] at h ⊢
    rw [v4 h])
   refine ⟨_, t', fun r => ?_, hfin⟩
   rw [hvc] at e2
   simp only [Sm.cells_mk, hm0, hr0]
   rw [eval_M rfl rfl t_rt_stmt rfl]
   simp [-arith, c_rt_stmt, hn, hx, hsim, iB, iL, iC, iI, iR, e1, gI, hnx, A, A6, e2, e4, h16, Ht_len]
 ·-- txn
  rw [hx] at hsim iB iL iC iI iR iT
  have hsr : simR kTxn = 0 := by decide
  rw [hsr] at hsim
  simp at iB iL iC iI iR iT
  have hP := hsB 0 (.inr ⟨kTxn, hsv _ hx (by simp)⟩)
  rw [hsv _ hx (by simp)] at hP
  dsimp only at hP
  rw [if_neg (show ¬ kTxn = kLet by decide), if_neg (show ¬ kTxn = kCall by decide), if_neg (show ¬ kTxn = kIf by decide), if_neg (show ¬ kTxn = kRepeat by decide)] at hP
  obtain ⟨y, t', e2, a2, v2⟩ := rtxn_eq hL hi (d := d) (by omega) hW hto hst a1 hla (fun h => by have := hcl h; omega) (by omega) hd0
  have hfin := stmt_fin (L := L) (f := txnP stm len d) hA.good hc (txnP_to (hto (d + 1)) len) hP (x := y) (t' := t') a2 v2
  refine ⟨_, t', fun r => ?_, hfin⟩
  obtain ⟨y1, y2, y3, y4, y5, y6, y7⟩ := y
  simp only [Sm.cells_mk] at e2 ⊢
  rw [eval_M rfl rfl t_rt_stmt rfl]
  simp [-arith, c_rt_stmt, hn, hx, hsim, iB, iL, iC, iI, iR, iT, e1, gI, hnx, A, A6, e2, Ht_len]
end
theorem rstmt_eq {L : List Wx} (hL : L.length ≤ 10000) (hW : ∀ w ∈ L, w.kind = 5 → w.s.length ≤ 2) : ∀ n, n ≤ 4097 → SpecSR L (stmtP n) n
 | 0, _ => fun HB i hi s t hA hc hl => by have := hA.good.pos; omega
 | n + 1, h => rstmtB_eq hL hW h (stmtP_to n) (rstmt_eq hL hW n (by omega)) (fun h1 => by
   obtain ⟨m, rfl⟩ : ∃ m, n = m + 1 := ⟨n - 1, by omega⟩
   exact stmtB_less (stmtP_to m) m)
/-- A list of procedures that grows in a block. -/
def pbox (A : List (List UInt8 × List Sm)) (m c o : V) : Option (List V) := some [.own 2 (A.map prow), m, c, o]
def obox (p m c : V) (O : List (List UInt8 × Ex)) : Option (List V) := some [p, m, c, .own 5 (O.map orow)]
section
variable {HB : Heap} {i : Nat} {L : List Wx}
theorem qGk (s : TS) (a : Option (List V)) (T : Heap) (z : Option (List V)) : (Ht HB i L s ++ (a :: (T ++ [z])))[HB.length + (T.length + 1)]? = some z := by
 rw [List.getElem?_append_right (by rw [Ht_len]; omega), Ht_len]
 have : HB.length + (T.length + 1) - HB.length = T.length + 1 := by omega
 rw [this]; simp
theorem qSk (s : TS) (a : Option (List V)) (T : Heap) (z u : Option (List V)) : (Ht HB i L s ++ (a :: (T ++ [z]))).set (HB.length + (T.length + 1)) u = Ht HB i L s ++ (a :: (T ++ [u])) := by
 rw [List.set_append_right _ _ (by rw [Ht_len]; omega), Ht_len]
 have : HB.length + (T.length + 1) - HB.length = T.length + 1 := by omega
 rw [this]; simp
theorem qGl (s : TS) (a : Option (List V)) (T : Heap) (y z : Option (List V)) : (Ht HB i L s ++ (a :: (T ++ [y, z])))[HB.length + (T.length + 1 + 1)]? = some z := by
 rw [List.getElem?_append_right (by rw [Ht_len]; omega), Ht_len]
 have : HB.length + (T.length + 1 + 1) - HB.length = T.length + 2 := by omega
 rw [this]; simp
theorem qSl (s : TS) (a : Option (List V)) (T : Heap) (y z u : Option (List V)) : (Ht HB i L s ++ (a :: (T ++ [y, z]))).set (HB.length + (T.length + 1 + 1)) u = Ht HB i L s ++ (a :: (T ++ [y, u])) := by
 rw [List.set_append_right _ _ (by rw [Ht_len]; omega), Ht_len]
 have : HB.length + (T.length + 1 + 1) - HB.length = T.length + 2 := by omega
 rw [this]; simp
theorem qGl' (s : TS) (a : Option (List V)) (T : Heap) (y z : Option (List V)) : (Ht HB i L s ++ (a :: (T ++ [y, z])))[HB.length + (T.length + 1)]? = some y := by
 rw [List.getElem?_append_right (by rw [Ht_len]; omega), Ht_len]
 have : HB.length + (T.length + 1) - HB.length = T.length + 1 := by omega
 rw [this]; simp
theorem qG7 (s : TS) (a : Option (List V)) (T : Heap) : (Ht HB i L s ++ a :: T)[HB.length]? = some a := by
 have := get0 (Ht HB i L s) a T
 rwa [Ht_len] at this
theorem qS7 (s : TS) (a u : Option (List V)) (T : Heap) : (Ht HB i L s ++ a :: T).set HB.length u = Ht HB i L s ++ u :: T := by
 have := set0 (Ht HB i L s) a u T
 rwa [Ht_len] at this
@[simp] theorem qLen0 (s : TS) (r : Heap) : (Ht HB i L s ++ r).length = HB.length + r.length := by simp [Ht_len]
end
section
variable {L : List Wx} (hL : L.length ≤ 4097) {HB : Heap} {i : Nat} (hi : i < HB.length)
include hL hi
/-- The key word and the name. -/
theorem rnamed_step {s : PS} {t : TS} (hA : Alk L s t) (key : List UInt8) (q : Nat) (hs1 : s.sees [key] = some key) :
  ∃ t0 t1 nm, (∀ w, L[t.at_]? = some w → t0 = if q = 16 then t.fail 14 w else t) ∧ t0.at_ = t.at_ ∧ t0.at_ + 1 < L.length ∧
   (∀ r, eval tbl noExt n_rt_kind [.ptr i 0, .int .i64 1] (Ht HB i L t0.next ++ r) = some (.agg (Wx.cells nm), Ht HB i L t1 ++ r)) ∧
   Alk L (namedP key q s).2 t1 ∧ (namedP key q s).1 = some nm.s := by
 obtain ⟨w, hw, hwh⟩ := hA.word
 have hk0 := (sees_kind hs1).1
 have hc := hA.good.tidy hk0
 have hsk := hA.skip hk0
 have hend : t.at_ + 1 < L.length := hsk.lt
 have htk := takes_of hs1
 have h0 : Alk L (if q = 16 then s.skip.fail 14 s.head else s.skip) (if q = 16 then t.fail 14 w else t).next := by
  by_cases h16 : q = 16
  ·rw [if_pos h16, if_pos h16]
   have h1 := hsk.fail (show (14 : Int) ≠ 0 by omega) w
   rw [hwh hc] at h1 ⊢
   have h2 : (t.fail 14 s.head).next = t.next.fail 14 s.head := by unfold TS.fail TS.next; split <;> rfl
   rw [h2]; exact h1
  ·rw [if_neg h16, if_neg h16]; exact hsk
 obtain ⟨t1, e1, a1, l1⟩ := h0.kind_step (by omega) (show (1 : Int) ≠ 0 by omega) hi
 have hP : namedP key q s = (some ((if q = 16 then s.skip.fail 14 s.head else s.skip).of 1).1.s, ((if q = 16 then s.skip.fail 14 s.head else s.skip).of 1).2) := by
  unfold namedP
  rw [htk]
  rfl
 refine ⟨_, t1, _, fun w' hw' => by rw [Option.some.inj (hw'.symm.trans hw)], by split <;> simp [TS.fail_at], by split <;> simp [TS.fail_at, hend], e1, ?_, ?_⟩
 ·rw [hP]; exact a1
 ·rw [hP]
theorem rproc_loop {n : Nat} (hn : n ≤ 4097) (hst : SpecSR L (stmtP n) n) (hless : Less (stmtP n)) (m c o : V) (hm : m = .own 7 []) (hc' : c = .own 7 []) (ho : o = .own 5 []) :
  ∀ (k : Nat) (A AP : List (List UInt8 × List Sm)) (s : PS) (t : TS), A.length + k ≤ 5000 → Alk L s t → s.left.length ≤ n → s.left.length ≤ k + 1 → (s.clean → 0 ≤ s.st ∧ s.st + (s.left.length : Int) ≤ 5000) → A.length = AP.length → (s.clean → A = AP) →
   ∃ A' t', (∀ (Q : Option (V × Heap) → Prop) (kk : List Item) (T : Heap) (φ : Fr), Fr.get φ 6 = .ptr i 0 → Fr.get φ 7 = .ptr HB.length 0 →
    (∀ T' φ', Fr.get φ' 6 = .ptr i 0 → Fr.get φ' 7 = .ptr HB.length 0 → Fr.get φ' 2 = Fr.get φ 2 → Fr.get φ' 3 = Fr.get φ 3 → Q (M (eval tbl noExt) kk φ' (Ht HB i L t' ++ (pbox A' m c o :: T')))) →
    Q (M (eval tbl noExt) (.code l_r17_Program_0 :: .blk 0 :: kk) φ (Ht HB i L t ++ (pbox A m c o :: T)))) ∧
   Alk L (procsG (stmtP n) n k AP s).2 t' ∧ ((procsG (stmtP n) n k AP s).2.clean → A' = (procsG (stmtP n) n k AP s).1) := by
 subst hm hc' ho
 intro k
 induction k with
 | zero =>
  intro A AP s t hk hA hl hlk hb hlA hv
  have hno : s.sees [kProc] = none := by
   cases h : s.sees [kProc] with
   | none => rfl
   | some u => have := hA.good.two (sees_kind h).1; omega
  have i1 := hA.is_step kProc hi
  rw [hno] at i1
  simp at i1
  refine ⟨A, t, fun Q kk T φ g6 g7 hx => ?_, hA, hv⟩
  rw [l_r17_Program_0, M_loop]
  simp [b_r17_Program_0, g6, g7, i1]
  refine hx _ _ ?_ ?_ ?_ ?_ <;> simp [g6, g7]
 | succ k ih =>
  intro A AP s t hk hA hl hlk hb hlA hv
  have i1 := hA.is_step kProc hi
  have hs1 := sees_one (s := s) (a := kProc)
  unfold procsG
  cases b1 : (s.sees [kProc]).isSome with
  | false =>
   rw [b1] at hs1 i1
   have hN : namedP kProc AP.length s = (none, s) := by unfold namedP; rw [takes_of hs1]; rfl
   rw [hN]
   refine ⟨A, t, fun Q kk T φ g6 g7 hx => ?_, hA, hv⟩
   rw [l_r17_Program_0, M_loop]
   simp [b_r17_Program_0, g6, g7, i1]
   refine hx _ _ ?_ ?_ ?_ ?_ <;> simp [g6, g7]
  | true =>
   rw [b1] at hs1 i1
   have hs1' : s.sees [kProc] = some kProc := hs1
   have hc := hA.good.tidy (sees_kind hs1').1
   obtain ⟨w, hw, hwh⟩ := hA.word
   obtain ⟨t0, t1, nm, h0, u0, u1, e1, a1, hnm⟩ := rnamed_step hL hi hA kProc AP.length hs1'
   have ht0 := h0 w hw
   have gn := namedP_to kProc AP.length s hA.good
   have hnl : (namedP kProc AP.length s).2.left.length + 1 ≤ s.left.length := by
    obtain ⟨o, r, ho⟩ : ∃ o r, namedP kProc AP.length s = (o, r) := ⟨_, _, rfl⟩
    rw [ho] at hnm ⊢
    dsimp only at hnm
    rw [hnm] at ho
    exact named_some hA.good ho
   obtain ⟨N, r1, hN⟩ : ∃ N r1, namedP kProc AP.length s = (N, r1) := ⟨_, _, rfl⟩
   rw [hN] at a1 hnm gn hnl ⊢
   dsimp only at a1 hnm gn hnl
   rw [hnm]
   dsimp only
   have c1 := gn.cnt
   obtain ⟨b, t2, e2, a2, v2⟩ := rblock_eq (by omega) (stmtP_to n) hst hless hi (by omega) 1 a1 (Nat.le_trans gn.len hl) (fun h => by have := hb (gn.clean h); omega)
   have g2 := blockP_to (stmtP_to n 1) n _ a1.good
   have c2 := g2.cnt
   obtain ⟨A', t', e3, a3, v3⟩ := ih (A ++ [(nm.s, b)]) (AP ++ [(nm.s, (blockP (stmtP n) n 1 r1).1)]) _ t2 (by simp; omega) a2 (Nat.le_trans g2.len (Nat.le_trans gn.len hl)) (by have := g2.len; omega) (fun h => by have := hb (gn.clean (g2.clean h)); omega) (by simp [hlA]) (fun h => by rw [v2 h, hv hc])
   refine ⟨A', t', fun Q kk T φ g6 g7 hx => ?_, a3, v3⟩
   have hn := fun r => tnow_eq hi hw r
   have hf := fun r => tfail_eq (L := L) hi t 14 w r
   have hwc : w.cells = [iw w.kind, .str w.s, iw w.n, iw w.a] := rfl
   rw [hwc] at hn hf
   have hnc : nm.cells = [iw nm.kind, .str nm.s, iw nm.n, iw nm.a] := rfl
   rw [hnc] at e1
   have gI := fun r => gHt (L := L) hi t0 r
   unfold TS.cells at gI
   have hnx := fun r => tnext_eq (L := L) hi t0 r
   have An := ar_next t0.at_ (by omega)
   have hcap : 2 * (A.length + 1) * 40 ≤ 281474976710656 := by omega
   have hml : (A.map prow).length = A.length := by simp
   have hmap : (A ++ [(nm.s, b)]).map prow = A.map prow ++ [[.str nm.s, .sl 7 (Sm.rows b)]] := by simp [prow]
   have e4 := fun φ => e3 Q kk (T ++ [some [iw nm.kind, .str nm.s, iw nm.n, iw nm.a]]) φ
   unfold pbox at e4 hx ⊢
   rw [hmap] at e4
   generalize A.map prow = R at e4 hml ⊢
   rw [l_r17_Program_0, M_loop, ← l_r17_Program_0]
   by_cases h16 : A.length = 16
   ·have h16' : (A.length : Int) = 16 := by omega
    rw [if_pos (by omega)] at ht0
    rw [← ht0] at hf
    simp [-arith, b_r17_Program_0, g6, g7, i1, hml, h16, h16', hn, hf, gI, hnx, An, e1, e2, hcap, Ht_len, qG7, qS7, qGk, qSk]
    refine e4 _ ?_ ?_ (fun T' φ' k6 k7 k2 k3 => hx T' φ' k6 k7 (k2.trans ?_) (k3.trans ?_)) <;> simp [g6, g7]
   ·have h16' : ¬ (A.length : Int) = 16 := by omega
    rw [if_neg (by omega)] at ht0
    subst ht0
    simp [-arith, b_r17_Program_0, g6, g7, i1, hml, h16, h16', gI, hnx, An, e1, e2, hcap, Ht_len, qG7, qS7, qGk, qSk]
    refine e4 _ ?_ ?_ (fun T' φ' k6 k7 k2 k3 => hx T' φ' k6 k7 (k2.trans ?_) (k3.trans ?_)) <;> simp [g6, g7]
theorem roracle_loop {n : Nat} (hn : n ≤ 4097) (p m c : V) :
  ∀ (k : Nat) (A AP : List (List UInt8 × Ex)) (s : PS) (t : TS), A.length + k ≤ 5000 → Alk L s t → s.left.length ≤ n → s.left.length ≤ k + 1 → A.length = AP.length → (s.clean → A = AP) →
   ∃ A' t', (∀ (Q : Option (V × Heap) → Prop) (kk : List Item) (T : Heap) (φ : Fr), Fr.get φ 6 = .ptr i 0 → Fr.get φ 7 = .ptr HB.length 0 →
    (∀ T' φ', Fr.get φ' 6 = .ptr i 0 → Fr.get φ' 7 = .ptr HB.length 0 → Fr.get φ' 2 = Fr.get φ 2 → Fr.get φ' 3 = Fr.get φ 3 → Q (M (eval tbl noExt) kk φ' (Ht HB i L t' ++ (obox p m c A' :: T')))) →
    Q (M (eval tbl noExt) (.code l_r17_Program_1 :: .blk 2 :: kk) φ (Ht HB i L t ++ (obox p m c A :: T)))) ∧
   Alk L (oraclesG n k AP s).2 t' ∧ ((oraclesG n k AP s).2.clean → A' = (oraclesG n k AP s).1) := by
 intro k
 induction k with
 | zero =>
  intro A AP s t hk hA hl hlk hlA hv
  have hno : s.sees [kOracle] = none := by
   cases h : s.sees [kOracle] with
   | none => rfl
   | some u => have := hA.good.two (sees_kind h).1; omega
  have i1 := hA.is_step kOracle hi
  rw [hno] at i1
  simp at i1
  refine ⟨A, t, fun Q kk T φ g6 g7 hx => ?_, hA, hv⟩
  rw [l_r17_Program_1, M_loop]
  simp [b_r17_Program_1, g6, g7, i1]
  refine hx _ _ ?_ ?_ ?_ ?_ <;> simp [g6, g7]
 | succ k ih =>
  intro A AP s t hk hA hl hlk hlA hv
  have i1 := hA.is_step kOracle hi
  have hs1 := sees_one (s := s) (a := kOracle)
  unfold oraclesG
  cases b1 : (s.sees [kOracle]).isSome with
  | false =>
   rw [b1] at hs1 i1
   have hN : namedP kOracle AP.length s = (none, s) := by unfold namedP; rw [takes_of hs1]; rfl
   rw [hN]
   refine ⟨A, t, fun Q kk T φ g6 g7 hx => ?_, hA, hv⟩
   rw [l_r17_Program_1, M_loop]
   simp [b_r17_Program_1, g6, g7, i1]
   refine hx _ _ ?_ ?_ ?_ ?_ <;> simp [g6, g7]
  | true =>
   rw [b1] at hs1 i1
   have hs1' : s.sees [kOracle] = some kOracle := hs1
   have hc := hA.good.tidy (sees_kind hs1').1
   obtain ⟨w, hw, hwh⟩ := hA.word
   obtain ⟨t0, t1, nm, h0, u0, u1, e1, a1, hnm⟩ := rnamed_step hL hi hA kOracle AP.length hs1'
   have ht0 := h0 w hw
   have gn := namedP_to kOracle AP.length s hA.good
   have hnl : (namedP kOracle AP.length s).2.left.length + 1 ≤ s.left.length := by
    obtain ⟨o, r, ho⟩ : ∃ o r, namedP kOracle AP.length s = (o, r) := ⟨_, _, rfl⟩
    rw [ho] at hnm ⊢
    dsimp only at hnm
    rw [hnm] at ho
    exact named_some hA.good ho
   obtain ⟨N, r1, hN⟩ : ∃ N r1, namedP kOracle AP.length s = (N, r1) := ⟨_, _, rfl⟩
   rw [hN] at a1 hnm gn hnl ⊢
   dsimp only at a1 hnm gn hnl
   rw [hnm]
   dsimp only
   obtain ⟨t2, e2, a2, l2⟩ := a1.need_step (by omega) gCl hi
   have g2 := wants_to a1.good gCl
   obtain ⟨x, t3, e3, a3, v3, l3⟩ := rwhole_eq (by omega) gSe (by simp) n hn hi (x := .own 1 [tx gSe]) (.inr rfl) a2 (Nat.le_trans g2.len (Nat.le_trans gn.len hl))
   have g3 := wholeP_to gSe n _ a2.good
   obtain ⟨t4, e4, a4, l4⟩ := a3.need_step (by omega) gSe hi
   have g4 := wants_to a3.good gSe
   obtain ⟨A', t', e5, a5, v5⟩ := ih (A ++ [(nm.s, x)]) (AP ++ [(nm.s, (wholeP gSe n (r1.wants gCl)).1)]) _ t4 (by simp; omega) a4 (Nat.le_trans g4.len (Nat.le_trans g3.len (Nat.le_trans g2.len (Nat.le_trans gn.len hl)))) (by have := g2.len; have := g3.len; have := g4.len; omega) (by simp [hlA]) (fun h => by rw [v3 (g4.clean h), hv hc])
   refine ⟨A', t', fun Q kk T φ g6 g7 hx => ?_, a5, v5⟩
   have hn' := fun r => tnow_eq hi hw r
   have hf := fun r => tfail_eq (L := L) hi t 14 w r
   have hwc : w.cells = [iw w.kind, .str w.s, iw w.n, iw w.a] := rfl
   rw [hwc] at hn' hf
   have hnc : nm.cells = [iw nm.kind, .str nm.s, iw nm.n, iw nm.a] := rfl
   rw [hnc] at e1
   have gI := fun r => gHt (L := L) hi t0 r
   unfold TS.cells at gI
   have hnx := fun r => tnext_eq (L := L) hi t0 r
   have An := ar_next t0.at_ (by omega)
   have hcap : 2 * (A.length + 1) * 72 ≤ 281474976710656 := by omega
   have hml : (A.map orow).length = A.length := by simp
   obtain ⟨xo, xn, xt, xl⟩ := x
   have hmap : (A ++ [(nm.s, Ex.mk xo xn xt xl)]).map orow = A.map orow ++ [[.str nm.s, .int .i64 xo, .int .i64 xn, .str xt, .sl 4 (Ex.rows xl)]] := by simp [orow, Ex.cells_mk]
   simp only [Ex.cells_mk, tx] at e3
   have e6 := fun φ => e5 Q kk (T ++ [some [iw nm.kind, .str nm.s, iw nm.n, iw nm.a], some [.int .i64 xo, .int .i64 xn, .str xt, .sl 4 (Ex.rows xl)]]) φ
   unfold obox at e6 hx ⊢
   rw [hmap] at e6
   generalize A.map orow = R at e6 hml ⊢
   rw [l_r17_Program_1, M_loop, ← l_r17_Program_1]
   by_cases h16 : A.length = 16
   ·have h16' : (A.length : Int) = 16 := by omega
    rw [if_pos (by omega)] at ht0
    rw [← ht0] at hf
    simp [-arith, b_r17_Program_1, g6, g7, i1, hml, h16, h16', hn', hf, gI, hnx, An, e1, e2, e3, e4, hcap, Ht_len, qG7, qS7, qGk, qSk, qGl, qSl, qGl']
    refine e6 _ ?_ ?_ (fun T' φ' k6 k7 k2 k3 => hx T' φ' k6 k7 (k2.trans ?_) (k3.trans ?_)) <;> simp [g6, g7]
   ·have h16' : ¬ (A.length : Int) = 16 := by omega
    rw [if_neg (by omega)] at ht0
    subst ht0
    simp [-arith, b_r17_Program_1, g6, g7, i1, hml, h16, h16', gI, hnx, An, e1, e2, e3, e4, hcap, Ht_len, qG7, qS7, qGk, qSk, qGl, qSl, qGl']
    refine e6 _ ?_ ?_ (fun T' φ' k6 k7 k2 k3 => hx T' φ' k6 k7 (k2.trans ?_) (k3.trans ?_)) <;> simp [g6, g7]
end
theorem kind0 {L : List Wx} {s : PS} {t : TS} (h : Alk L s t) {w : Wx} (hwh : s.clean → w = s.head) : (t.kind w 0).2.fe = (s.of 0).2.fe ∧ (t.kind w 0).2.fa = (s.of 0).2.fa := by
 unfold TS.kind PS.of
 by_cases hc : s.clean
 ·have h0 := h.clean_iff.1 hc
  rw [if_pos h0, hwh hc]
  by_cases hk : s.head.kind = 0
  ·rw [if_pos hk, if_neg (by simpa using hk)]
   have e : s.skip.fe = s.fe ∧ s.skip.fa = s.fa := by unfold PS.skip; split <;> exact ⟨rfl, rfl⟩
   exact ⟨by rw [e.1]; exact h.fe, by rw [e.2]; exact h.fa⟩
  ·rw [if_neg hk, if_pos hk]
   have := h.fail (show (12 : Int) ≠ 0 by omega) s.head
   exact ⟨this.fe, this.fa⟩
 ·have h0 := h.good.head0 (h.good.fault hc)
  rw [if_neg (fun e => hc (h.clean_iff.2 e)), if_neg (by simpa using h0)]
  have e : s.skip.fe = s.fe ∧ s.skip.fa = s.fa := by unfold PS.skip; split <;> exact ⟨rfl, rfl⟩
  exact ⟨by rw [e.1]; exact h.fe, by rw [e.2]; exact h.fa⟩
/-- The blocks ahead of the parser's. -/
def hb4 (a b c : Option (List V)) : Heap := [a, b, c, none]
section
variable (a b c : Option (List V)) (L : List Wx) (t : TS)
theorem hb4_len : (hb4 a b c).length = 4 := rfl
theorem b4g0 (r : Heap) : (Ht (hb4 a b c) 3 L t ++ r)[0]? = some a := rfl
theorem b4g1 (r : Heap) : (Ht (hb4 a b c) 3 L t ++ r)[1]? = some b := rfl
theorem b4g3 (r : Heap) : (Ht (hb4 a b c) 3 L t ++ r)[3]? = some (some (t.cells L)) := rfl
theorem b4g4 (x : Option (List V)) (r : Heap) : (Ht (hb4 a b c) 3 L t ++ x :: r)[4]? = some x := rfl
theorem b4s0 (x : Option (List V)) (r : Heap) : (Ht (hb4 a b c) 3 L t ++ r).set 0 x = Ht (hb4 x b c) 3 L t ++ r := rfl
theorem b4s1 (x : Option (List V)) (r : Heap) : (Ht (hb4 a b c) 3 L t ++ r).set 1 x = Ht (hb4 a x c) 3 L t ++ r := rfl
theorem b4s4 (x y : Option (List V)) (r : Heap) : (Ht (hb4 a b c) 3 L t ++ x :: r).set 4 y = Ht (hb4 a b c) 3 L t ++ y :: r := rfl
end
theorem alk0 {l : List Wx} (hg : (pst l).good) : Alk l (pst l) ⟨0, 0, 0, 0⟩ :=
 ⟨hg, List.length_pos_iff.2 hg.ne, rfl, rfl, fun _ => rfl, fun _ => ⟨rfl, rfl⟩⟩
theorem rProgram_bad {s : List UInt8} (hs : s.length ≤ 5000) (h0 : (wordsS s).2.1 ≠ 0) : eval tbl noExt n_r17_Program [.str s] [] = some (.tup [.agg zp.cells, .agg [iw (wordsS s).2.1, iw (wordsS s).2.2]], []) := by
 have hW := refWords_eq s (by omega) []
 generalize wordsS s = x at hW h0 ⊢
 obtain ⟨rows, e, a⟩ := x
 simp only [wordsV] at hW h0 ⊢
 have hz : zp.cells = [.sl 2 [], .sl 7 [], .sl 7 [], .sl 5 []] := rfl
 rw [hz]
 rw [eval_M rfl rfl t_r17_Program rfl]
 simp [c_r17_Program, hW, h0, eqCells, V.apart, storeOf]
theorem rExpr_bad {s : List UInt8} (hs : s.length ≤ 5000) (h0 : (wordsS s).2.1 ≠ 0) : eval tbl noExt n_r17_Expr [.str s] [] = some (.tup [.agg zx.cells, .agg [iw (wordsS s).2.1, iw (wordsS s).2.2]], []) := by
 have hW := refWords_eq s (by omega) []
 generalize wordsS s = x at hW h0 ⊢
 obtain ⟨rows, e, a⟩ := x
 simp only [wordsV] at hW h0 ⊢
 have hz : zx.cells = [.int .i64 0, .int .i64 0, .str [], .sl 4 []] := rfl
 rw [hz]
 rw [eval_M rfl rfl t_r17_Expr rfl]
 simp [c_r17_Expr, hW, h0, eqCells, V.apart, storeOf]
theorem rrec_step {L : List Wx} (hL : L.length ≤ 4097) {n : Nat} (hn : n ≤ 4097) (hst : SpecSR L (stmtP n) n) (hless : Less (stmtP n)) {HB : Heap} {i : Nat} (hi : i < HB.length) {s : PS} {t : TS} (hA : Alk L s t) (hl : s.left.length ≤ n) (hb : s.clean → 0 ≤ s.st ∧ s.st + (s.left.length : Int) ≤ 5000) :
  ∃ (b : Bool) (t1 t2 : TS) (c : List Sm), (∀ r, eval tbl noExt n_rt_take [.ptr i 0, .str kRecover] (Ht HB i L t ++ r) = some (.bool b, Ht HB i L t1 ++ r)) ∧
   (b = true → ∀ r, eval tbl noExt n_rt_block [.ptr i 0, .int .i64 1] (Ht HB i L t1 ++ r) = some (.own 7 (Sm.rows c), Ht HB i L t2 ++ r)) ∧ (b = false → t1 = t2 ∧ c = []) ∧
   Alk L (recP n s).2 t2 ∧ ((recP n s).2.clean → c = (recP n s).1) := by
 obtain ⟨e1, a1⟩ := hA.take_step (by omega) kRecover hi
 have hs1 := sees_one (s := s) (a := kRecover)
 cases b1 : (s.sees [kRecover]).isSome with
 | false =>
  rw [b1] at hs1
  simp only [b1] at e1
  simp at e1
  have hr : recP n s = ([], s) := by unfold recP; rw [takes_of hs1]; rfl
  rw [hr]
  exact ⟨false, t, t, [], e1, fun h => (by cases h), fun _ => ⟨rfl, rfl⟩, hA, fun _ => rfl⟩
 | true =>
  rw [b1] at hs1
  simp only [b1] at e1
  simp at e1
  have hk0 := (sees_kind hs1).1
  have hsk := hA.skip hk0
  have g := skip_to hA.good hk0
  have c1 := g.cnt
  obtain ⟨c, t2, e2, a2, v2⟩ := rblock_eq (by omega) (stmtP_to n) hst hless hi (by omega) 1 hsk (Nat.le_trans g.len hl) (fun h => by have := hb (g.clean h); omega)
  have hr : recP n s = blockP (stmtP n) n 1 s.skip := by unfold recP; rw [takes_of hs1]; rfl
  rw [hr]
  exact ⟨true, t.next, t2, c, e1, fun _ => e2, fun h => (by cases h), a2, v2⟩
theorem rProgram_eq {s : List UInt8} (hs : s.length ≤ 5000) {l : List Wx} (hw : wordsS s = (wrows l, 0, 0)) (hg : (pst l).good) (hf : (pst l).fed s.length) :
  eval tbl noExt n_r17_Program [.str s] [] = some (.tup [.agg (ansP (programP 4097 (pst l))).cells, .agg [iw (programP 4097 (pst l)).2.fe, iw (programP 4097 (pst l)).2.fa]], []) := by
 have hWd := refWords_eq s (by omega) []
 simp only [hw, wordsV] at hWd
 have hL : l.length ≤ 4097 := hg.len
 have hW : ∀ w ∈ l, w.kind = 5 → w.s.length ≤ 2 := fun w h => (hf.words w h).short
 have hst := rstmt_eq (L := l) (by omega) hW 4097 (Nat.le_refl _)
 have hless : Less (stmtP 4097) := stmtB_less (stmtP_to 4096) 4096
 obtain ⟨ZA, hZA⟩ : ∃ Z : Option (List V), Z = some [.own 2 [], .own 7 [], .own 7 [], .own 5 []] := ⟨_, rfl⟩
 obtain ⟨ZF, hZF⟩ : ∃ Z : Option (List V), Z = some [iw 0, iw 0] := ⟨_, rfl⟩
 have hi : 3 < (hb4 ZA ZF ZF).length := by rw [hb4_len]; omega
 have fedF := (programP_led 4097 (pst l)).fed (show (0 : Int) ≤ s.length by omega) hf
 -- the parts
 obtain ⟨A, t1, e1, a1, v1⟩ := rproc_loop hL hi (Nat.le_refl 4097) hst hless _ _ _ rfl rfl rfl 4097 [] [] (pst l) ⟨0, 0, 0, 0⟩ (by simp) (alk0 hg) hL (by show l.length ≤ _; omega) (fun _ => ⟨by simp [pst], by simp only [pst]; omega⟩) rfl (fun _ => rfl)
 have g1 := procsG_to (len := 4097) (stmtP_to 4097) 4097 [] (pst l) hg
 have c1 := g1.cnt
 have hst0 : (pst l).st = 0 := rfl
 have hll : (pst l).left.length ≤ 4097 := hL
 obtain ⟨t2, e2, a2, _⟩ := a1.need_step (by omega) kMain hi
 have g2 := g1.trans (wants_to g1.good kMain)
 have c2 := g2.cnt
 obtain ⟨B, t3, e3, a3, v3⟩ := rblock_eq (by omega) (stmtP_to 4097) hst hless hi (by omega) 1 a2 (Nat.le_trans g2.len hll) (fun _ => by omega)
 have g3 := g2.trans (blockP_to (stmtP_to 4097 1) 4097 _ g2.good)
 have c3 := g3.cnt
 obtain ⟨b4, t4, t5, C, e4, e5, e6, a5, v5⟩ := rrec_step hL (Nat.le_refl _) hst hless hi a3 (Nat.le_trans g3.len hll) (fun _ => by omega)
 have g5 := g3.trans (recP_to 4097 _ g3.good)
 obtain ⟨O, t6, e7, a6, v6⟩ := roracle_loop hL hi (Nat.le_refl 4097) (.own 2 (A.map prow)) (.own 7 (Sm.rows B)) (.own 7 (Sm.rows C)) 4097 [] [] _ t5 (by simp) a5 (Nat.le_trans g5.len hll) (Nat.le_trans g5.len (by omega)) rfl (fun _ => rfl)
 have g6 := g5.trans (oraclesG_to (len := 4097) 4097 [] _ g5.good)
 obtain ⟨w, hw6, hwh⟩ := a6.word
 have k6 := kind0 a6 hwh
 have e8 := fun r => tkind_eq hi hw6 (by omega) 0 r
 have hv : (programP 4097 (pst l)).2.clean → (programP 4097 (pst l)).1 = ⟨A, B, C, O⟩ := by
  intro h
  have h6 := (of_to g6.good 0).clean h
  have h5 := (oraclesG_to (len := 4097) 4097 [] _ g5.good).clean h6
  have h3 := (recP_to 4097 _ g3.good).clean h5
  have h2 := (blockP_to (stmtP_to 4097 1) 4097 _ g2.good).clean h3
  have h1 := (wants_to g1.good kMain).clean h2
  rw [v1 h1, v3 h3, v5 h5, v6 h6]
  rfl
 have hkf : (programP 4097 (pst l)).2.fe = (t6.kind w 0).2.fe ∧ (programP 4097 (pst l)).2.fa = (t6.kind w 0).2.fa := ⟨k6.1.symm, k6.2.symm⟩
 have e9 := fun r => tbad_eq (HB := hb4 ZA ZF ZF) (L := l) hi (t6.kind w 0).2 r
 generalize hP : programP 4097 (pst l) = P at hv hkf fedF ⊢
 obtain ⟨p, r⟩ := P
 dsimp only at hv hkf fedF ⊢
 generalize ht7 : (t6.kind w 0).2 = t7 at e8 e9 hkf
 generalize hq7 : (t6.kind w 0).1 = q7 at e8
 have hqc : q7.cells = [iw q7.kind, .str q7.s, iw q7.n, iw q7.a] := rfl
 rw [hqc] at e8
 unfold ansP
 dsimp only
 have hc : r.clean ↔ t7.fe = 0 := ⟨fun h => by rw [← hkf.1]; exact h.1, fun h => ⟨by rw [hkf.1]; exact h, fedF.none (by rw [hkf.1]; exact h)⟩⟩
 have hfin : ∀ T' φ', Fr.get φ' 6 = .ptr 3 0 → Fr.get φ' 7 = .ptr 4 0 → Fr.get φ' 2 = .ptr 0 0 → Fr.get φ' 3 = .ptr 1 0 →
   M (eval tbl noExt) [.code r_r17_Program_0, .fin [.cell 2 (some 4), .cell 3 (some 2)] 0] φ' (Ht (hb4 ZA ZF ZF) 3 l t6 ++ (obox (.own 2 (A.map prow)) (.own 7 (Sm.rows B)) (.own 7 (Sm.rows C)) O :: T')) = some (.tup [.agg (if r.clean then p else zp).cells, .agg [iw r.fe, iw r.fa]], []) := by
  intro T' φ' k6' k7 k2 k3
  by_cases h0 : t7.fe = 0
  ·have hcl := hc.2 h0
   rw [if_pos hcl, hv hcl, hcl.1, hcl.2]
   have hpc : (Pg.mk A B C O).cells = [.sl 2 (A.map prow), .sl 7 (Sm.rows B), .sl 7 (Sm.rows C), .sl 5 (O.map orow)] := rfl
   rw [hpc]
   subst hZA hZF
   simp [r_r17_Program_0, obox, k6', k7, k2, k3, e8, e9, h0, b4g0, b4g1, b4g4, b4s0, b4s1, b4s4, hb4_len]
  ·have hncl : ¬ r.clean := fun h => h0 (hc.1 h)
   rw [if_neg hncl, hkf.1, hkf.2]
   have hz : zp.cells = [.sl 2 [], .sl 7 [], .sl 7 [], .sl 5 []] := rfl
   rw [hz]
   have g3' := fun a b c r => b4g3 a b c l t7 r
   unfold TS.cells at g3'
   subst hZA hZF
   simp [r_r17_Program_0, obox, k6', k7, k2, k3, e8, e9, h0, g3', V.apart, storeOf, b4g0, b4g1, b4g4, b4s0, b4s1, b4s4, hb4_len]
 have hmid : ∀ T' φ', Fr.get φ' 6 = .ptr 3 0 → Fr.get φ' 7 = .ptr 4 0 → Fr.get φ' 2 = .ptr 0 0 → Fr.get φ' 3 = .ptr 1 0 →
   M (eval tbl noExt) [.code r_r17_Program_1, .fin [.cell 2 (some 4), .cell 3 (some 2)] 0] φ' (Ht (hb4 ZA ZF ZF) 3 l t1 ++ (pbox A (.own 7 []) (.own 7 []) (.own 5 []) :: T')) = some (.tup [.agg (if r.clean then p else zp).cells, .agg [iw r.fe, iw r.fa]], []) := by
  intro T' φ' k6' k7 k2 k3
  have e7' := fun T φ g6 g7 hx => e7 (fun o => o = some (V.tup [.agg (if r.clean then p else zp).cells, .agg [iw r.fe, iw r.fa]], [])) [.code r_r17_Program_0, .fin [.cell 2 (some 4), .cell 3 (some 2)] 0] T φ g6 g7 hx
  generalize (some (V.tup [.agg (if r.clean then p else zp).cells, .agg [iw r.fe, iw r.fa]], ([] : Heap))) = R at e7' hfin ⊢
  unfold obox at e7' hfin
  simp only [List.map_nil] at e7'
  cases hb4' : b4 with
  | true =>
   have e5' := e5 hb4'
   rw [hb4'] at e4
   simp [r_r17_Program_1, pbox, k6', k7, k2, k3, e2, e3, e4, e5', b4g4, b4s4]
   refine e7' _ _ ?_ ?_ (fun T'' φ'' q6 q7 q2 q3 => hfin T'' φ'' q6 q7 (q2.trans ?_) (q3.trans ?_)) <;> simp [k6', k7, k2, k3, hb4_len]
  | false =>
   obtain ⟨h45, hC0⟩ := e6 hb4'
   rw [hb4'] at e4
   subst h45 hC0
   have hm0 : Sm.rows [] = [] := rfl
   rw [hm0] at e7' hfin
   simp [r_r17_Program_1, pbox, k6', k7, k2, k3, e2, e3, e4, b4g4, b4s4]
   refine e7' _ _ ?_ ?_ (fun T'' φ'' q6 q7 q2 q3 => hfin T'' φ'' q6 q7 (q2.trans ?_) (q3.trans ?_)) <;> simp [k6', k7, k2, k3, hb4_len]
 rw [eval_M rfl rfl t_r17_Program rfl]
 have e1' := fun T φ g6 g7 hx => e1 (fun o => o = some (V.tup [.agg (if r.clean then p else zp).cells, .agg [iw r.fe, iw r.fa]], [])) [.code r_r17_Program_1, .fin [.cell 2 (some 4), .cell 3 (some 2)] 0] T φ g6 g7 hx
 generalize (some (V.tup [.agg (if r.clean then p else zp).cells, .agg [iw r.fe, iw r.fa]], ([] : Heap))) = R at e1' hmid ⊢
 subst hZA hZF
 simp [c_r17_Program, hWd, eqCells]
 refine e1' [] _ ?_ ?_ (fun T'' φ'' q6 q7 q2 q3 => hmid T'' φ'' q6 q7 (q2.trans ?_) (q3.trans ?_)) <;> simp [hb4_len]
theorem rwhole_nil {L : List Wx} (hL : L.length ≤ 10000) (n : Nat) (hn : n ≤ 4097) {HB : Heap} {i : Nat} (hi : i < HB.length) {s : PS} {t : TS} (hA : Alk L s t) (hl : s.left.length ≤ n) (hsn : (exprP n s).2.sees [[]] = none) :
  ∃ y t', (∀ r, eval tbl noExt n_rt_whole [.ptr i 0, .own 1 []] (Ht HB i L t ++ r) = some (.agg (Ex.cells y), Ht HB i L t' ++ r)) ∧ Alk L (wholeP [] n s).2 t' ∧ ((wholeP [] n s).2.clean → y = (wholeP [] n s).1) := by
 obtain ⟨w, hw, hwh⟩ := hA.word
 have hnow := fun r => tnow_eq hi hw r
 have hwc : w.cells = [iw w.kind, .str w.s, iw w.n, iw w.a] := rfl
 rw [hwc] at hnow
 obtain ⟨y, t1, e1, a1, v1, l1, z1⟩ := rexpr17_eq hL n hn HB i hi s t hA hl
 have gto := exprP_to n s hA.good
 have hlt := hA.lt
 have hD := rdeep_eq y.size y (Nat.le_refl _) (by omega)
 unfold wholeP
 dsimp only
 obtain ⟨xP, s1, hs1⟩ : ∃ xP s1, exprP n s = (xP, s1) := ⟨_, _, rfl⟩
 simp only [hs1] at a1 v1 gto hsn ⊢
 obtain ⟨w1, hw1, hwh1⟩ := a1.word
 have hnow1 := fun r => tnow_eq hi hw1 r
 have hwc1 : w1.cells = [iw w1.kind, .str w1.s, iw w1.n, iw w1.a] := rfl
 have hf12 := fun r => tfail_eq (L := L) hi t1 12 w1 r
 rw [hwc1] at hnow1 hf12
 obtain ⟨t2, ht2⟩ : ∃ t2, t2 = (if w1.kind = 0 then t1 else t1.fail 12 w1) := ⟨_, rfl⟩
 have hf14 := fun r => tfail_eq (L := L) hi t2 14 w r
 rw [hwc] at hf14
 obtain ⟨D, hDD⟩ : ∃ D, D = y.deep := ⟨_, rfl⟩
 rw [← hDD] at hD
 obtain ⟨t3, ht3⟩ : ∃ t3, t3 = (if 8 < D then t2.fail 14 w else t2) := ⟨_, rfl⟩
 refine ⟨y, t3, fun r => ?_, ?_⟩
 ·obtain ⟨yo, yn, yt, yl⟩ := y
  simp only [Ex.cells_mk] at e1 hD ⊢
  rw [eval_M rfl rfl t_rt_whole rfl]
  by_cases hk : w1.kind = 0
  ·rw [if_pos hk] at ht2
   rw [ht2] at hf14
   by_cases h8 : 8 < D
   ·have h8' : (8 : Int) < D := by omega
    rw [if_pos h8, ht2] at ht3
    rw [ht3]
    simp [c_rt_whole, hnow, e1, hnow1, hk, Ht_len]
    rw [l_rt_whole_0, M_loop]
    simp [b_rt_whole_0, r_rt_whole_0, hD, h8', hf14, Ht_len]
   ·have h8' : ¬ (8 : Int) < D := by omega
    rw [if_neg h8, ht2] at ht3
    rw [ht3]
    simp [c_rt_whole, hnow, e1, hnow1, hk, Ht_len]
    rw [l_rt_whole_0, M_loop]
    simp [b_rt_whole_0, r_rt_whole_0, hD, h8', Ht_len]
  ·rw [if_neg hk] at ht2
   rw [ht2] at hf14
   by_cases h8 : 8 < D
   ·have h8' : (8 : Int) < D := by omega
    rw [if_pos h8, ht2] at ht3
    rw [ht3]
    simp [c_rt_whole, hnow, e1, hnow1, hk, Ht_len]
    rw [l_rt_whole_0, M_loop]
    simp [b_rt_whole_0, r_rt_whole_0, hD, h8', hnow1, hf12, hf14, Ht_len]
   ·have h8' : ¬ (8 : Int) < D := by omega
    rw [if_neg h8, ht2] at ht3
    rw [ht3]
    simp [c_rt_whole, hnow, e1, hnow1, hk, Ht_len]
    rw [l_rt_whole_0, M_loop]
    simp [b_rt_whole_0, r_rt_whole_0, hD, h8', hnow1, hf12, Ht_len]
 ·by_cases hc : s1.clean
  ·have hsc := gto.clean hc
   have hy := v1 hc
   have ha1 := a1.clean_iff.1 hc
   rw [if_neg (by simpa using hc), hsn]
   by_cases hk : w1.kind = 0
   ·rw [if_pos hk] at ht2
    rw [if_neg (fun h => h.2 (by simp [← hwh1 hc, hk]))]
    rw [hDD, hy, ht2] at ht3
    by_cases h8 : 8 < xP.deep
    ·rw [if_pos h8] at ht3 ⊢
     rw [ht3]
     have := a1.fail (show (14 : Int) ≠ 0 by omega) w
     rw [hwh hsc] at this ⊢
     exact ⟨this, fun h => absurd h (fail_dirty (by omega) _)⟩
    ·rw [if_neg h8] at ht3 ⊢
     rw [ht3]
     exact ⟨a1, fun _ => hy⟩
   ·rw [if_neg hk] at ht2
    rw [if_pos ⟨rfl, fun h => hk (by rw [hwh1 hc]; exact h.2)⟩]
    have h1 := a1.failh (show (12 : Int) ≠ 0 by omega) hwh1
    have h3 : t3 = t1.fail 12 w1 := by
     rw [ht3, ht2]
     split
     ·exact TS.fail_bad (by unfold TS.fail; rw [if_pos ha1]; exact (by decide : ¬ (12 : Int) = 0)) _ _
     ·rfl
    rw [h3]
    exact ⟨h1, fun h => absurd h (fail_dirty (by omega) _)⟩
  ·rw [if_pos hc]
   have hbad : ¬ t1.fe = 0 := fun e => hc (a1.clean_iff.2 e)
   have h2 : t2 = t1 := by rw [ht2]; split; rfl; exact TS.fail_bad hbad _ _
   have h3 : t3 = t1 := by
    rw [ht3, h2]
    split
    ·exact TS.fail_bad hbad _ _
    ·rfl
   rw [h3]
   exact ⟨a1, fun h => absurd h hc⟩
theorem rExpr_eq {s : List UInt8} (hs : s.length ≤ 5000) {l : List Wx} (hw : wordsS s = (wrows l, 0, 0)) (hg : (pst l).good) (hf : (pst l).fed s.length) :
  eval tbl noExt n_r17_Expr [.str s] [] = some (.tup [.agg (ansE (wholeP [] 4097 (pst l))).cells, .agg [iw (wholeP [] 4097 (pst l)).2.fe, iw (wholeP [] 4097 (pst l)).2.fa]], []) := by
 have hWd := refWords_eq s (by omega) []
 simp only [hw, wordsV] at hWd
 have hL : l.length ≤ 4097 := hg.len
 obtain ⟨ZA, hZA⟩ : ∃ Z : Option (List V), Z = some [.int .i64 0, .int .i64 0, .str [], .own 4 []] := ⟨_, rfl⟩
 obtain ⟨ZF, hZF⟩ : ∃ Z : Option (List V), Z = some [iw 0, iw 0] := ⟨_, rfl⟩
 have hi : 3 < (hb4 ZA ZF ZF).length := by rw [hb4_len]; omega
 have h0s : (0 : Int) ≤ s.length := by omega
 have fedF := (wholeP_led (b := false) [] 4097 (pst l)).fed h0s hf
 have fedE := (exprP_led (b := false) 4097 (pst l)).fed h0s hf
 have hsn : (exprP 4097 (pst l)).2.sees [[]] = none := by
  unfold PS.sees
  rw [if_neg]
  rintro ⟨h1, h2⟩
  exact (fedE.head h0s).sign h1 (by simpa using h2)
 obtain ⟨y, t1, e1, a1, v1⟩ := rwhole_nil (by omega) 4097 (Nat.le_refl _) hi (alk0 hg) hL hsn
 have e9 := fun r => tbad_eq (HB := hb4 ZA ZF ZF) (L := l) hi t1 r
 generalize hP : wholeP [] 4097 (pst l) = P at a1 v1 fedF ⊢
 obtain ⟨x, r⟩ := P
 dsimp only at a1 v1 fedF ⊢
 have hc := a1.clean_iff
 unfold ansE
 dsimp only
 have b0 : Ht (hb4 ZA ZF ZF) 3 l ⟨0, 0, 0, 0⟩ ++ [] = [ZA, ZF, ZF, some [.sl 4 (wrows l), iw 0, iw 0, iw 0, iw 0]] := rfl
 have b1 : Ht (hb4 ZA ZF ZF) 3 l t1 ++ [] = [ZA, ZF, ZF, some [.sl 4 (wrows l), iw t1.at_, iw t1.st, iw t1.fe, iw t1.fa]] := rfl
 have b2 : Ht (hb4 ZA ZF ZF) 3 l t1 ++ [some (Ex.cells y)] = [ZA, ZF, ZF, some [.sl 4 (wrows l), iw t1.at_, iw t1.st, iw t1.fe, iw t1.fa], some (Ex.cells y)] := rfl
 have e10 := e1 []
 rw [b0, b1] at e10
 have e11 := e9 [some (Ex.cells y)]
 rw [b2] at e11
 obtain ⟨yo, yn, yt, yl⟩ := y
 simp only [Ex.cells_mk] at e10 e11
 rw [eval_M rfl rfl t_r17_Expr rfl]
 by_cases h0 : t1.fe = 0
 ·have hcl := hc.2 h0
  rw [if_pos hcl, ← v1 hcl, hcl.1, hcl.2]
  subst hZA hZF
  simp only [h0] at e10 e11
  simp [c_r17_Expr, hWd, eqCells, e10, e11, Ex.cells_mk]
 ·have hncl : ¬ r.clean := fun h => h0 (hc.1 h)
  rw [if_neg hncl, ← a1.fe, ← a1.fa]
  have hz : zx.cells = [.int .i64 0, .int .i64 0, .str [], .sl 4 []] := rfl
  rw [hz]
  subst hZA hZF
  simp [c_r17_Expr, hWd, eqCells, e10, e11, h0, V.apart, storeOf]
theorem knows17' : eval tbl noExt n_l17_knows [] [] = some (.bool true, []) := (eval_iff _ _ _ _ _ _).2 ⟨300, by kernel_rfl⟩
/-- Both answer alike. -/
theorem tells_both (s : List UInt8) (hs : s.length ≤ 5000) : ∃ (p : Pg) (x : Ex) (e a e' a' : Int),
  eval tbl noExt n_parse_Program [.str s] [] = some (.tup [.agg p.cells, .agg [iw e, iw a]], []) ∧ eval tbl noExt n_parse_Expr [.str s] [] = some (.tup [.agg x.cells, .agg [iw e', iw a']], []) ∧
  eval tbl noExt n_r17_Program [.str s] [] = some (.tup [.agg p.cells, .agg [iw e, iw a]], []) ∧ eval tbl noExt n_r17_Expr [.str s] [] = some (.tup [.agg x.cells, .agg [iw e', iw a']], []) ∧ p.size ≤ 20000 ∧ x.size ≤ 20000 := by
 by_cases h0 : (wordsS s).2.1 = 0
 ·obtain ⟨l, hw, hg, hf⟩ := words_fed s h0
  have hL : (0 : Int) ≤ s.length := by omega
  have lg : l.length ≤ 4097 := hg.len
  refine ⟨_, _, _, _, _, _, Program_eq (by omega) hw hg, Expr_eq (by omega) hw hg, rProgram_eq hs hw hg hf, rExpr_eq hs hw hg hf, ?_, ?_⟩
  ·unfold ansP
   split
   ·rename_i hc
    have := psz hg lg hc
    have e : (pst l).left.length = l.length := rfl
    omega
   ·decide
  ·unfold ansE
   split
   ·rename_i hc
    have := whole_sz hg hc
    have e : (pst l).left.length = l.length := rfl
    omega
   ·decide
 ·exact ⟨_, _, _, _, _, _, Program_bad (by omega) h0, Expr_bad (by omega) h0, rProgram_bad hs h0, rExpr_bad hs h0, by decide, by decide⟩
theorem ParseTells_eq (s : List UInt8) : eval tbl noExt n_l17_ParseTells [.str s] [] = some (.bool true, []) := by
 have hk := knows17'
 rw [eval_M rfl rfl t_l17_ParseTells rfl]
 by_cases h : s.length ≤ 5000
 ·have h' : ¬ (5000 : Int) < s.length := by omega
  obtain ⟨p, x, e, a, e', a', h1, h2, h3, h4, h5, h6⟩ := tells_both s h
  have hS := refSame_eq p h5
  have hE := SameExpr_eq 20000 x x h6 (Nat.le_refl _)
  rw [Ex.same_rfl] at hE
  have hF := fault_eq e a []
  have hF' := fault_eq e' a' []
  have hpc : p.cells = [.sl 2 p.pcells, .sl 7 (Sm.rows p.main), .sl 7 (Sm.rows p.recover), .sl 5 p.ocells] := rfl
  rw [hpc] at h1 h3 hS
  obtain ⟨xo, xn, xt, xl⟩ := x
  simp only [Ex.cells_mk] at h2 h4 hE
  simp [c_l17_ParseTells, h, h', hk, h1, h2, h3, h4, hS, hE, hF, hF']
 ·have h' : (5000 : Int) < s.length := by omega
  simp [c_l17_ParseTells, h, h', hk]
theorem ParseTells_all (s : List UInt8) : ∃ H', eval tbl noExt n_l17_ParseTells [.str s] [] = some (.bool true, H') := ⟨_, ParseTells_eq s⟩
end Go.AM.Spec
