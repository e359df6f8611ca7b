/-
  The parts of this proof that speak of the functions one by one.
-/
import Derived.Test.YtlpokbhooaffmaaDoorSpecPa
import Derived.Test.YtlpokbhooaffmaaDoorSpecWd
import Derived.Test.YtlpokbhooaffmaaDoorSpecTr
namespace Go.AM.Spec
set_option linter.unusedVariables false
set_option linter.unusedSimpArgs false
set_option maxHeartbeats 4000000
set_option maxRecDepth 10000
open PS

theorem ar_suci (d : Int) (h0 : 0 ≤ d) (h1 : d ≤ 100000) : arith .add .i64 d 1 = some (.int .i64 (d + 1)) := by
  show some (V.int .i64 _) = _
  rw [w64 (by omega) (by omega)]

section
variable {stm : SF} {len : Nat} {HB : Heap} {i : Nat} {s : PS} {d : Int}

theorem loop17_eq (hlen : len ≤ 5000) (hto : ∀ d, Goes' (stm d)) (hst : SpecS stm len) (hless : Less stm) (hi : i < HB.length) (hs : s.good) (hl : s.left.length ≤ len) (h0 : 0 ≤ s.st) (hb : s.st + (s.left.length : Int) ≤ 5000) (hd0 : 0 ≤ d) (hd9 : d ≤ 8) (r : Heap) :
    eval tbl noExt n_pparse_parser_loop [.ptr i 0, .int .i64 d] (Hp HB i s ++ r) = some (.agg (loopP stm len d s).1.cells, Hp HB i (loopP stm len d s).2 ++ r) := by
  have h1 := fun r => of_eq hi hs.ne 2 r
  have g1 := of_to hs 2
  have A6 := ar_suci d hd0 (by omega)
  unfold loopP
  dsimp only
  obtain ⟨w, s1, hw⟩ : ∃ w s1, s.of 2 = (w, s1) := ⟨_, _, rfl⟩
  simp only [hw] at h1 g1 ⊢
  have hwc : w.cells = [iw w.kind, .str w.s, iw w.n, iw w.a] := rfl
  have h2 := fun r => pfail_eq hi s1 14 w r
  rw [hwc] at h1 h2
  have hr0 : Ex.rows [] = [] := rfl
  have hm0 : Sm.rows [] = [] := rfl
  rw [eval_M rfl rfl t_pparse_parser_loop rfl]
  by_cases h16 : 16 < w.n
  · rw [if_pos h16]
    have g2 := g1.trans (fail_to g1.good (show (14 : Int) ≠ 0 by omega) w)
    have hcnt := g2.cnt
    have h3 := fun r => pblock_eq hlen hto hst hless hi g2.good (Nat.le_trans g2.len hl) (by omega) (by omega) (d + 1) (by omega) (by omega) r
    simp [-arith, c_pparse_parser_loop, h1, h2, h3, h16, A6, hr0, hm0, Sm.cells_mk, hLen, Hp_len, hTk, hTk', hG0, hG1, hG1', hS0, hS1, hS1', lt_pparse_words_of, lt_pparse_words_fail, lt_pparse_parser_block]
  · rw [if_neg h16]
    have hcnt := g1.cnt
    have h3 := fun r => pblock_eq hlen hto hst hless hi g1.good (Nat.le_trans g1.len hl) (by omega) (by omega) (d + 1) (by omega) (by omega) r
    simp [-arith, c_pparse_parser_loop, h1, h2, h3, h16, A6, hr0, hm0, Sm.cells_mk, hLen, Hp_len, hTk, hTk', hG0, hG1, hG1', hS0, hS1, hS1', lt_pparse_words_of, lt_pparse_words_fail, lt_pparse_parser_block]

theorem choice_eq (hlen : len ≤ 5000) (hto : ∀ d, Goes' (stm d)) (hst : SpecS stm len) (hless : Less stm) (hi : i < HB.length) (hs : s.good) (hl : s.left.length ≤ len) (h0 : 0 ≤ s.st) (hb : s.st + (s.left.length : Int) ≤ 5000) (hd0 : 0 ≤ d) (hd9 : d ≤ 8) (r : Heap) :
    eval tbl noExt n_pparse_parser_choice [.ptr i 0, .int .i64 d] (Hp HB i s ++ r) = some (.agg (choiceP stm len d s).1.cells, Hp HB i (choiceP stm len d s).2 ++ r) := by
  have h1 := fun r => pwhole_eq gLb len hi hs hl r
  have g1 := wholeP_to gLb len s hs
  have A6 := ar_suci d hd0 (by omega)
  unfold choiceP
  dsimp only
  obtain ⟨x, s1, hx⟩ : ∃ x s1, wholeP gLb len s = (x, s1) := ⟨_, _, rfl⟩
  simp only [hx] at h1 g1 ⊢
  have hc1 := g1.cnt
  have h2 := fun r => pblock_eq hlen hto hst hless hi g1.good (Nat.le_trans g1.len hl) (by omega) (by omega) (d + 1) (by omega) (by omega) r
  have g2 := g1.trans (blockP_to (hto (d + 1)) len s1 g1.good)
  obtain ⟨b, s2, hb2⟩ : ∃ b s2, blockP stm len (d + 1) s1 = (b, s2) := ⟨_, _, rfl⟩
  simp only [hb2] at h2 g2 ⊢
  have hc2 := g2.cnt
  have h3 := fun r => takes_eq hi g2.good.ne [kElse] (by simp) (.inr rfl) r
  obtain ⟨o, s3, ho⟩ : ∃ o s3, s2.takes [kElse] = (o, s3) := ⟨_, _, rfl⟩
  simp only [ho, seesV, List.map_cons, List.map_nil, tx] at h3 ⊢
  have hm0 : Sm.rows [] = [] := rfl
  obtain ⟨xo, xn, xt, xl⟩ := x
  have hr1 : Ex.rows [Ex.mk xo xn xt xl] = [(Ex.mk xo xn xt xl).cells] := rfl
  simp only [Ex.cells_mk] at h1 hr1
  rw [eval_M rfl rfl t_pparse_parser_choice rfl]
  cases o with
  | none =>
    simp [-arith, c_pparse_parser_choice, h1, h2, h3, A6, hr1, hm0, Sm.cells_mk, hLen, Hp_len, hTk, hTk', hG0, hG1, hG1', hS0, hS1, hS1', lt_pparse_words_takes, lt_pparse_parser_whole, lt_pparse_parser_block]
  | some t =>
    have g3 := g2.trans (takes_some g2.good ho).2.2.1
    have hc3 := g3.cnt
    have h4 := fun r => pblock_eq hlen hto hst hless hi g3.good (Nat.le_trans g3.len hl) (by omega) (by omega) (d + 1) (by omega) (by omega) r
    simp [-arith, c_pparse_parser_choice, h1, h2, h3, h4, A6, hr1, hm0, Sm.cells_mk, hLen, Hp_len, hTk, hTk', hG0, hG1, hG1', hS0, hS1, hS1', lt_pparse_words_takes, lt_pparse_parser_whole, lt_pparse_parser_block]

end
end Go.AM.Spec

namespace Go.AM.Spec
set_option linter.unusedVariables false
set_option linter.unusedSimpArgs false
set_option maxHeartbeats 4000000
set_option maxRecDepth 10000
open PS

def bodyV (l : List Sm) : V := if l = [] then .nils 7 else .own 7 (Sm.rows l)
def txnEnd (x : Ex) (b : List Sm) (s : PS) : Sm × PS :=
  let c := (s.wants gRb).takes [kCommit]
  (.mk 16 [] 0 [x] b [] c.1.isSome, c.2.wants gSe)

section
variable {HB : Heap} {i : Nat}

theorem txn_tail (hi : i < HB.length) (r : Heap) (x : Ex) (l : List Sm) {s : PS} (hs : s.good) (φ : Fr) (z : Option (List V)) (hz : z = some [.int .i64 0, .str [], .int .i64 0, .own 4 [], .own 7 [], .own 7 [], .bool false]) (g0 : Fr.get φ 0 = .ptr i 0) (g4 : Fr.get φ 4 = .ptr (HB.length + r.length) 0) (g5 : Fr.get φ 5 = .ptr (HB.length + (r.length + 1)) 0) :
    M (eval tbl noExt) [.code r_pparse_parser_txn_0, .fin [.cell 4 (some 7)] (HB.length + r.length)] φ (Hp HB i s ++ (r ++ [z, some [.int .i64 16, .str [], .int .i64 0, .sl 4 [x.cells], bodyV l, .sl 7 [], .bool false]])) = some (.agg (txnEnd x l s).1.cells, Hp HB i (txnEnd x l s).2 ++ r) := by
  have h1 := fun r => wants_eq hi hs.ne gRb r
  have t1 := wants_to hs gRb
  have h2 := fun r => takes_eq hi t1.good.ne [kCommit] (by simp) (.inr rfl) r
  have t2 := t1.trans (takes_to t1.good [kCommit])
  have h3 := fun r => wants_eq hi t2.good.ne gSe r
  unfold txnEnd
  dsimp only
  obtain ⟨o, s3, ho⟩ : ∃ o s3, (s.wants gRb).takes [kCommit] = (o, s3) := ⟨_, _, rfl⟩
  simp only [ho, seesV, List.map_cons, List.map_nil, tx] at h2 h3 ⊢
  have hr1 : Ex.rows [x] = [x.cells] := rfl
  have hm0 : Sm.rows [] = [] := rfl
  obtain ⟨xo, xn, xt, xl⟩ := x
  simp only [Ex.cells_mk] at hr1 ⊢
  subst hz
  cases l with
  | nil => simp [r_pparse_parser_txn_0, g0, g4, g5, h1, h2, h3, hr1, hm0, bodyV, Sm.cells_mk, hLen, Hp_len, hTk, hTk', hG0, hG1, hG1', hS0, hS1, hS1', lt_pparse_words_takes, lt_pparse_words_wants]
  | cons a l => simp [r_pparse_parser_txn_0, g0, g4, g5, h1, h2, h3, hr1, hm0, bodyV, Sm.cells_mk, hLen, Hp_len, hTk, hTk', hG0, hG1, hG1', hS0, hS1, hS1', lt_pparse_words_takes, lt_pparse_words_wants]

theorem txn_loop {stm : SF} {len : Nat} {d : Int} (hto : ∀ d, Goes' (stm d)) (hst : SpecS stm len) (hd0 : 0 ≤ d) (hd9 : d ≤ 8) (hi : i < HB.length) (r : Heap) (x : Ex) (z : Option (List V)) (hz : z = some [.int .i64 0, .str [], .int .i64 0, .own 4 [], .own 7 [], .own 7 [], .bool false]) :
    ∀ (k : Nat) (l : List Sm) (s : PS) (φ : Fr), l.length + k = 8 → s.good → s.left.length ≤ len → 0 ≤ s.st → s.st + (s.left.length : Int) ≤ 5000 → Fr.get φ 0 = .ptr i 0 → Fr.get φ 1 = .int .i64 d → Fr.get φ 4 = .ptr (HB.length + r.length) 0 → Fr.get φ 5 = .ptr (HB.length + (r.length + 1)) 0 →
      M (eval tbl noExt) [.code l_pparse_parser_txn_0, .blk 0, .code r_pparse_parser_txn_0, .fin [.cell 4 (some 7)] (HB.length + r.length)] φ (Hp HB i s ++ (r ++ [z, some [.int .i64 16, .str [], .int .i64 0, .sl 4 [x.cells], bodyV l, .sl 7 [], .bool false]])) =
        some (.agg (txnEnd x (txnG (stm (d + 1)) k l s).1 (txnG (stm (d + 1)) k l s).2).1.cells, Hp HB i (txnEnd x (txnG (stm (d + 1)) k l s).1 (txnG (stm (d + 1)) k l s).2).2 ++ r) := by
  intro k
  induction k with
  | zero =>
    intro l s φ hk hs hl h0 hb g0 g1 g4 g5
    have h1 := fun r => sees_eq hi hs.ne [kWrite] (by simp) (.inr rfl) r
    have h2 := fun r => phead_eq hi hs.ne r
    have h3 := fun r => pfail_eq hi s 14 s.head r
    have hrl := Sm.rows_ln l
    have hl8 : l.length = 8 := by omega
    have hne : l ≠ [] := fun e => by subst e; simp at hl8
    have hbody : bodyV l = .own 7 (Sm.rows l) := by unfold bodyV; rw [if_neg hne]
    unfold txnG
    rw [l_pparse_parser_txn_0, M_loop]
    cases ho : s.sees [kWrite] with
    | none =>
      simp only [ho, seesV, List.map_cons, List.map_nil, tx] at h1
      have hT := fun φ' => txn_tail hi r x l hs φ' z hz
      rw [if_neg (by simp)]
      simp [b_pparse_parser_txn_0, g0, g1, g4, g5, h1, hLen, Hp_len, hTk, hTk', hG0, hG1, hG1', hS0, hS1, hS1', lt_pparse_words_sees]
      refine hT _ ?_ ?_ ?_ <;> simp [g0, g4, g5]
    | some t =>
      simp only [ho, seesV, List.map_cons, List.map_nil, tx] at h1
      have hT := fun φ' => txn_tail hi r x l (fail_to hs (show (14 : Int) ≠ 0 by omega) s.head).good φ' z hz
      rw [if_pos (by rfl)]
      rw [hbody] at hT ⊢
      simp [b_pparse_parser_txn_0, g0, g1, g4, g5, h1, h2, h3, hrl, hl8, hLen, Hp_len, hTk, hTk', hG0, hG1, hG1', hS0, hS1, hS1', lt_pparse_words_sees, lt_pparse_words_head, lt_pparse_words_fail]
      refine hT _ ?_ ?_ ?_ <;> simp [g0, g4, g5]
  | succ k ih =>
    intro l s φ hk hs hl h0 hb g0 g1 g4 g5
    have h1 := fun r => sees_eq hi hs.ne [kWrite] (by simp) (.inr rfl) r
    have A6 := ar_suci d hd0 (by omega)
    have hrl := Sm.rows_ln l
    have hl8 : ¬ l.length = 8 := by omega
    have hl8' : ¬ (l.length : Int) = 8 := by omega
    unfold txnG
    rw [l_pparse_parser_txn_0, M_loop, ← l_pparse_parser_txn_0]
    cases ho : s.sees [kWrite] with
    | none =>
      simp only [ho, seesV, List.map_cons, List.map_nil, tx] at h1
      have hT := fun φ' => txn_tail hi r x l hs φ' z hz
      rw [if_neg (by simp)]
      simp [b_pparse_parser_txn_0, g0, g1, g4, g5, h1, hLen, Hp_len, hTk, hTk', hG0, hG1, hG1', hS0, hS1, hS1', lt_pparse_words_sees]
      refine hT _ ?_ ?_ ?_ <;> simp [g0, g4, g5]
    | some t =>
      simp only [ho, seesV, List.map_cons, List.map_nil, tx] at h1
      rw [if_pos (by rfl)]
      have hS := fun r => hst HB i hi s hs hl h0 hb (d + 1) (by omega) (by omega) r
      have gto := hto (d + 1) s hs
      obtain ⟨y, s2, hy⟩ : ∃ y s2, stm (d + 1) s = (y, s2) := ⟨_, _, rfl⟩
      simp only [hy] at hS gto ⊢
      have hcnt := gto.cnt
      have hnext := ih (l ++ [y]) s2
      have hbody2 : bodyV (l ++ [y]) = .own 7 (Sm.rows l ++ [y.cells]) := by unfold bodyV; rw [if_neg (by simp), Sm.rows_snoc]
      have hcap : 2 * (l.length + 1) * 112 ≤ 281474976710656 := by omega
      rw [hbody2] at hnext
      obtain ⟨y1, y2, y3, y4, y5, y6, y7⟩ := y
      simp only [Sm.cells_mk] at hS hnext
      cases l with
      | nil =>
        have hb0 : bodyV [] = .nils 7 := rfl
        have hm0 : Sm.rows [] = [] := rfl
        rw [hb0]
        rw [hm0] at hnext
        simp [-arith, b_pparse_parser_txn_0, g0, g1, g4, g5, h1, hS, A6, hm0, hLen, Hp_len, hTk, hTk', hG0, hG1, hG1', hS0, hS1, hS1', lt_pparse_words_sees, lt_pparse_parser_stmt]
        refine hnext _ (by simp at hk; simp; omega) gto.good (Nat.le_trans gto.len hl) (by omega) (by omega) ?_ ?_ ?_ ?_ <;> simp [g0, g1, g4, g5]
      | cons a l =>
        have hb0 : bodyV (a :: l) = .own 7 (Sm.rows (a :: l)) := rfl
        rw [hb0]
        generalize Sm.rows (a :: l) = R at hnext hrl ⊢
        generalize a :: l = L at hnext hrl hk hcap hl8 hl8' ⊢
        simp [-arith, b_pparse_parser_txn_0, g0, g1, g4, g5, h1, hS, A6, hrl, hl8, hl8', hcap, hLen, Hp_len, hTk, hTk', hG0, hG1, hG1', hS0, hS1, hS1', lt_pparse_words_sees, lt_pparse_parser_stmt]
        refine hnext _ (by simp; omega) gto.good (Nat.le_trans gto.len hl) (by omega) (by omega) ?_ ?_ ?_ ?_ <;> simp [g0, g1, g4, g5]

theorem txn_eq {stm : SF} {len : Nat} {d : Int} (hto : ∀ d, Goes' (stm d)) (hst : SpecS stm len) (hi : i < HB.length) {s : PS} (hs : s.good) (hl : s.left.length ≤ len) (h0 : 0 ≤ s.st) (hb : s.st + (s.left.length : Int) ≤ 5000) (hd0 : 0 ≤ d) (hd9 : d ≤ 8) (r : Heap) :
    eval tbl noExt n_pparse_parser_txn [.ptr i 0, .int .i64 d] (Hp HB i s ++ r) = some (.agg (txnP stm len d s).1.cells, Hp HB i (txnP stm len d s).2 ++ r) := by
  have h1 := fun r => pwhole_eq gLb len hi hs hl r
  have g1 := wholeP_to gLb len s hs
  show _ = some (V.agg (txnEnd (wholeP gLb len s).1 (txnG (stm (d + 1)) 8 [] ((wholeP gLb len s).2.wants gLb)).1 (txnG (stm (d + 1)) 8 [] ((wholeP gLb len s).2.wants gLb)).2).1.cells, Hp HB i (txnEnd (wholeP gLb len s).1 (txnG (stm (d + 1)) 8 [] ((wholeP gLb len s).2.wants gLb)).1 (txnG (stm (d + 1)) 8 [] ((wholeP gLb len s).2.wants gLb)).2).2 ++ r)
  obtain ⟨x, s1, hx⟩ : ∃ x s1, wholeP gLb len s = (x, s1) := ⟨_, _, rfl⟩
  simp only [hx] at h1 g1 ⊢
  have h2 := fun r => wants_eq hi g1.good.ne gLb r
  have g2 := g1.trans (wants_to g1.good gLb)
  have hcnt := g2.cnt
  have hnext := txn_loop hto hst hd0 hd9 hi r x _ rfl 8 [] (s1.wants gLb)
  have hb0 : bodyV [] = .nils 7 := rfl
  rw [hb0] at hnext
  generalize txnEnd x (txnG (stm (d + 1)) 8 [] (s1.wants gLb)).1 (txnG (stm (d + 1)) 8 [] (s1.wants gLb)).2 = E at hnext ⊢
  obtain ⟨xo, xn, xt, xl⟩ := x
  simp only [Ex.cells_mk] at h1 hnext
  rw [eval_M rfl rfl t_pparse_parser_txn rfl]
  simp [-arith, c_pparse_parser_txn, h1, h2, hLen, Hp_len, hTk, hTk', hG0, hG1, hG1', hS0, hS1, hS1', lt_pparse_words_wants, lt_pparse_parser_whole]
  refine hnext _ rfl g2.good (Nat.le_trans g2.len hl) (by omega) (by omega) ?_ ?_ ?_ ?_ <;> simp

end
end Go.AM.Spec

namespace Go.AM.Spec
set_option linter.unusedVariables false
set_option linter.unusedSimpArgs false
set_option maxHeartbeats 4000000
set_option maxRecDepth 10000
open PS

theorem simple_range {w : Wx} {op : Int} (h : simpleP w = some op) : 1 ≤ op ∧ op ≤ 18 := by
  unfold simpleP at h
  by_cases h4 : w.kind = 4
  · rw [if_pos h4] at h
    by_cases a0 : w.s = kCreate
    · rw [if_pos a0] at h; cases h; decide
    rw [if_neg a0] at h
    by_cases a1 : w.s = kMkdir
    · rw [if_pos a1] at h; cases h; decide
    rw [if_neg a1] at h
    by_cases a2 : w.s = kWrite
    · rw [if_pos a2] at h; cases h; decide
    rw [if_neg a2] at h
    by_cases a3 : w.s = kAppend
    · rw [if_pos a3] at h; cases h; decide
    rw [if_neg a3] at h
    by_cases a4 : w.s = kTruncate
    · rw [if_pos a4] at h; cases h; decide
    rw [if_neg a4] at h
    by_cases a5 : w.s = kRename
    · rw [if_pos a5] at h; cases h; decide
    rw [if_neg a5] at h
    by_cases a6 : w.s = kUnlink
    · rw [if_pos a6] at h; cases h; decide
    rw [if_neg a6] at h
    by_cases a7 : w.s = kFsync
    · rw [if_pos a7] at h; cases h; decide
    rw [if_neg a7] at h
    by_cases a8 : w.s = kFdatasync
    · rw [if_pos a8] at h; cases h; decide
    rw [if_neg a8] at h
    by_cases a9 : w.s = kSyncdir
    · rw [if_pos a9] at h; cases h; decide
    rw [if_neg a9] at h
    by_cases a10 : w.s = kReplay
    · rw [if_pos a10] at h; cases h; decide
    rw [if_neg a10] at h
    by_cases a11 : w.s = kAssert
    · rw [if_pos a11] at h; cases h; decide
    rw [if_neg a11] at h
    by_cases a12 : w.s = kBarrier
    · rw [if_pos a12] at h; cases h; decide
    rw [if_neg a12] at h
    cases h
  · rw [if_neg h4] at h; cases h

theorem simple_none {w : Wx} {v : List UInt8} (hws : w.s = v) (hv : v = kLet ∨ v = kCall ∨ v = kIf ∨ v = kRepeat ∨ v = kTxn) : simpleP w = none := by
  unfold simpleP
  rw [hws]
  by_cases h4 : w.kind = 4
  · rw [if_pos h4]
    rcases hv with rfl | rfl | rfl | rfl | rfl <;> kernel_rfl
  · rw [if_neg h4]

theorem stmtB_less {stm : SF} (hs : ∀ d, Goes' (stm d)) (n : Nat) : Less (stmtB stm n) := fun deep s h => by
  unfold stmtB
  dsimp only
  split
  · exact fun hc => absurd hc (fail_dirty (by omega) _)
  · rename_i hno
    have hk : s.head.kind ≠ 0 := by
      cases ho : s.sees [kLet, kCall, kIf, kRepeat, kTxn] with
      | some t => exact (sees_kind ho).1
      | none =>
        refine simple_kind ?_
        cases hq : (simpleP s.head).isNone with
        | false => rfl
        | true => exact absurd ⟨hq, by rw [ho]; rfl⟩ hno
    split
    · exact fun hc => absurd hc (fail_dirty (by omega) _)
    · have h1 := st_skip h hk
      have h2 := h.two hk
      have e : PS.skip ⟨s.left, s.fe, s.fa, s.st + 1, s.o⟩ = ⟨s.left.tail, s.fe, s.fa, s.st + 1, false⟩ := skip_two h2
      have h3 : (PS.skip ⟨s.left, s.fe, s.fa, s.st + 1, s.o⟩).left.length < s.left.length := by rw [e]; simp only [List.length_tail]; omega
      generalize PS.skip ⟨s.left, s.fe, s.fa, s.st + 1, s.o⟩ = r at h1 h3
      intro _
      split
      · exact Nat.lt_of_le_of_lt (exprsP_to n _ _ h1.good).len h3
      · split
        · exact Nat.lt_of_le_of_lt (letP_to n _ h1.good).len h3
        · split
          · exact Nat.lt_of_le_of_lt (callP_to n _ h1.good).len h3
          · split
            · exact Nat.lt_of_le_of_lt (choiceP_to (hs _) n _ h1.good).len h3
            · split
              · exact Nat.lt_of_le_of_lt (loopP_to (hs _) n _ h1.good).len h3
              · exact Nat.lt_of_le_of_lt (txnP_to (hs _) n _ h1.good).len h3

theorem stmtB_eq {stm : SF} {len : Nat} (hlen : len ≤ 4999) (hto : ∀ d, Goes' (stm d)) (hst : SpecS stm len) (hless : 1 ≤ len → Less stm) : SpecS (stmtB stm len) (len + 1) := by
  intro HB i hi s hs hl h0 hb d hd0 hd9 r
  have h1 := fun r => phead_eq hi hs.ne r
  have h2 := psimple_eq s.head []
  have h3 := fun r => sees_eq hi hs.ne [kLet, kCall, kIf, kRepeat, kTxn] (by simp) (.inr rfl) r
  have h4 := fun r => pfail_eq hi s 12 s.head r
  have gI := fun r => gHp hi s r
  have A6 := ar_suci s.st h0 (by omega)
  unfold PS.cells at gI
  unfold stmtB
  dsimp only
  obtain ⟨w, hw⟩ : ∃ w, w = s.head := ⟨_, rfl⟩
  have hkw : s.head.kind = w.kind := by rw [hw]
  rw [← hw] at h1 h2 h4 ⊢
  have hwc : w.cells = [iw w.kind, .str w.s, iw w.n, iw w.a] := rfl
  rw [hwc] at h1 h2 h4
  have hr0 : Ex.rows [] = [] := rfl
  have hm0 : Sm.rows [] = [] := rfl
  obtain ⟨p, hp⟩ : ∃ p, p = simpleP w := ⟨_, rfl⟩
  obtain ⟨o, ho⟩ : ∃ o, o = s.sees [kLet, kCall, kIf, kRepeat, kTxn] := ⟨_, rfl⟩
  rw [← hp] at h2 ⊢
  rw [← ho] at h3 ⊢
  simp only [seesV, List.map_cons, List.map_nil, tx] at h3
  rw [eval_M rfl rfl t_pparse_parser_stmt rfl]
  by_cases hno : p.isNone = true ∧ o.isNone = true
  · rw [if_pos hno]
    have e1 : p = none := by cases p <;> simp_all
    have e2 : o = none := by cases o <;> simp_all
    rw [e1] at h2
    rw [e2] at h3
    simp [-arith, c_pparse_parser_stmt, h1, h2, h3, h4, zm, hr0, hm0, hwc, Sm.cells_mk, hLen, Hp_len, hTk, hTk', hG0, hG1, hG1', hS0, hS1, hS1', lt_pparse_words_head, lt_parse_simple, lt_pparse_words_sees, lt_pparse_words_fail]
  rw [if_neg hno]
  have hk : w.kind ≠ 0 := by
    cases o with
    | some t => rw [← hkw]; exact (sees_kind ho.symm).1
    | none =>
      refine simple_kind ?_
      rw [← hp]
      cases p with
      | some v => rfl
      | none => exact absurd ⟨rfl, rfl⟩ hno
  have hks : s.head.kind ≠ 0 := by rw [hkw]; exact hk
  have hpo : (p.isSome || o.isSome) = true := by
    cases p with
    | some v => rfl
    | none => cases o with
      | some v => rfl
      | none => exact absurd ⟨rfl, rfl⟩ hno
  obtain ⟨t, ht⟩ : ∃ t : PS, t = ⟨s.left, s.fe, s.fa, s.st + 1, s.o⟩ := ⟨_, rfl⟩
  have gt : t.good := by rw [ht]; exact st_good hs _
  have hset : ∀ r, (Hp HB i s ++ r).set i (some [s.lv, iw s.fe, iw s.fa, .int .i64 (s.st + 1)]) = Hp HB i t ++ r := fun r => by rw [ht]; exact sHp hi s ⟨s.left, s.fe, s.fa, s.st + 1, s.o⟩ r
  have gT := fun r => gHp hi t r
  have htc : t.cells = [t.lv, iw s.fe, iw s.fa, iw (s.st + 1)] := by rw [ht]; rfl
  rw [htc] at gT
  have hcond : ∀ (A B : Bool), (A || B) = true → (!A && !B) = false := by decide
  have hpo' := hcond _ _ hpo
  have h5 := fun r => pfail_eq hi t 14 w r
  rw [hwc] at h5
  have hl8 : s.left.length ≤ len + 1 := hl
  by_cases hbig : 256 < s.st + 1 ∨ 8 < d
  · rw [if_pos hbig, ← ht]
    have h6 : (p.isSome = true ∨ o.isSome = true) := by simpa using hpo
    have h7 : (!p.isSome && !o.isSome) = false := hpo'
    by_cases hb1 : 256 < s.st + 1
    · cases hps : p.isSome with
      | true =>
        rw [hps] at h2
        simp [-arith, c_pparse_parser_stmt, h1, h2, h3, h5, gI, gT, hset, A6, hb1, zm, hr0, hm0, hwc, Sm.cells_mk, hLen, Hp_len, hTk, hTk', hG0, hG1, hG1', hS0, hS1, hS1', lt_pparse_words_head, lt_parse_simple, lt_pparse_words_sees, lt_pparse_words_fail]
      | false =>
        have hos : o.isSome = true := by rw [hps] at hpo; simpa using hpo
        rw [hps] at h2
        rw [hos] at h3
        simp [-arith, c_pparse_parser_stmt, h1, h2, h3, h5, gI, gT, hset, A6, hb1, zm, hr0, hm0, hwc, Sm.cells_mk, hLen, Hp_len, hTk, hTk', hG0, hG1, hG1', hS0, hS1, hS1', lt_pparse_words_head, lt_parse_simple, lt_pparse_words_sees, lt_pparse_words_fail]
    · have hb2 : 8 < d := by omega
      cases hps : p.isSome with
      | true =>
        rw [hps] at h2
        simp [-arith, c_pparse_parser_stmt, h1, h2, h3, h5, gI, gT, hset, A6, hb1, hb2, zm, hr0, hm0, hwc, Sm.cells_mk, hLen, Hp_len, hTk, hTk', hG0, hG1, hG1', hS0, hS1, hS1', lt_pparse_words_head, lt_parse_simple, lt_pparse_words_sees, lt_pparse_words_fail]
      | false =>
        have hos : o.isSome = true := by rw [hps] at hpo; simpa using hpo
        rw [hps] at h2
        rw [hos] at h3
        simp [-arith, c_pparse_parser_stmt, h1, h2, h3, h5, gI, gT, hset, A6, hb1, hb2, zm, hr0, hm0, hwc, Sm.cells_mk, hLen, Hp_len, hTk, hTk', hG0, hG1, hG1', hS0, hS1, hS1', lt_pparse_words_head, lt_parse_simple, lt_pparse_words_sees, lt_pparse_words_fail]
  · rw [if_neg hbig, ← ht]
    have hb1 : ¬ 256 < s.st + 1 := fun h => hbig (.inl h)
    have hb2 : ¬ 8 < d := fun h => hbig (.inr h)
    have hth : t.head = w := by rw [ht, hw]; rfl
    have hsk := skip_good gt (by rw [hth]; exact hk)
    have h6 := fun r => pskip_eq hi gt.ne r
    rw [hth, hwc] at h6
    have htl : t.left = s.left := by rw [ht]
    have hts : t.skip.st = s.st + 1 := by
      have : t.skip.st = t.st := by unfold PS.skip; split <;> rfl
      rw [this, ht]
    rw [htl] at hsk
    obtain ⟨u, hu⟩ : ∃ u, u = t.skip := ⟨_, rfl⟩
    rw [← hu] at h6 hsk hts ⊢
    obtain ⟨gu, hul, hucl⟩ := hsk
    have hup := gu.pos
    have hles := hless (by omega)
    cases o with
    | none =>
      cases p with
      | none => exact absurd ⟨rfl, rfl⟩ hno
      | some op =>
        obtain ⟨q1, q2⟩ := simple_range hp.symm
        have h7 := fun r => exprs_eq len op q1 q2 hi gu (by omega) r
        simp [-arith, c_pparse_parser_stmt, h1, h2, h3, h6, h7, gI, gT, hset, A6, hb1, hb2, hr0, hm0, hwc, Sm.cells_mk, hLen, Hp_len, hTk, hTk', hG0, hG1, hG1', hG2, hG2', hG2'', hS0, hS1, hS1', hS2, hS2', hS2'', lt_pparse_words_head, lt_parse_simple, lt_pparse_words_sees, lt_pparse_words_fail, lt_pparse_words_skip, lt_pparse_words_of, lt_pparse_words_wants, lt_pparse_parser_exprs, lt_pparse_parser_choice, lt_pparse_parser_loop, lt_pparse_parser_txn]
    | some v =>
      obtain ⟨_, hv, hmem⟩ := sees_kind ho.symm
      have hws : w.s = v := by rw [hv, hw]
      have hpn : p = none := by
        rw [hp]
        refine simple_none hws ?_
        simpa only [List.mem_cons, List.not_mem_nil, or_false] using hmem
      rw [hpn] at h2
      dsimp only
      by_cases v1 : v = kLet
      · rw [if_pos v1]
        rw [v1] at h3
        have g1 := of_to gu 1
        have h7 := fun r => of_eq hi gu.ne 1 r
        have h8 := fun r => wants_eq hi g1.good.ne [61] r
        have g2 := g1.trans (wants_to g1.good [61])
        have h9 := fun r => exprs_eq len 12 (by omega) (by omega) hi g2.good (Nat.le_trans g2.len (by omega)) r
        unfold letP
        dsimp only
        obtain ⟨x, s2, hx⟩ : ∃ x s2, u.of 1 = (x, s2) := ⟨_, _, rfl⟩
        simp only [hx] at h7 h8 h9 ⊢
        have hxc : x.cells = [iw x.kind, .str x.s, iw x.n, iw x.a] := rfl
        rw [hxc] at h7
        simp [-arith, c_pparse_parser_stmt, h1, h2, h3, h6, h7, h8, h9, gI, gT, hset, A6, hb1, hb2, hr0, hm0, hwc, Sm.cells_mk, hLen, Hp_len, hTk, hTk', hG0, hG1, hG1', hG2, hG2', hG2'', hS0, hS1, hS1', hS2, hS2', hS2'', lt_pparse_words_head, lt_parse_simple, lt_pparse_words_sees, lt_pparse_words_fail, lt_pparse_words_skip, lt_pparse_words_of, lt_pparse_words_wants, lt_pparse_parser_exprs, lt_pparse_parser_choice, lt_pparse_parser_loop, lt_pparse_parser_txn]
      rw [if_neg v1]
      by_cases v2 : v = kCall
      · rw [if_pos v2]
        rw [v2] at h3
        have g1 := of_to gu 1
        have h7 := fun r => of_eq hi gu.ne 1 r
        have h9 := fun r => exprs_eq len 15 (by omega) (by omega) hi g1.good (Nat.le_trans g1.len (by omega)) r
        unfold callP
        dsimp only
        obtain ⟨x, s2, hx⟩ : ∃ x s2, u.of 1 = (x, s2) := ⟨_, _, rfl⟩
        simp only [hx] at h7 h9 ⊢
        have hxc : x.cells = [iw x.kind, .str x.s, iw x.n, iw x.a] := rfl
        rw [hxc] at h7
        simp [-arith, c_pparse_parser_stmt, h1, h2, h3, h6, h7, h9, gI, gT, hset, A6, hb1, hb2, hr0, hm0, hwc, Sm.cells_mk, hLen, Hp_len, hTk, hTk', hG0, hG1, hG1', hG2, hG2', hG2'', hS0, hS1, hS1', hS2, hS2', hS2'', lt_pparse_words_head, lt_parse_simple, lt_pparse_words_sees, lt_pparse_words_fail, lt_pparse_words_skip, lt_pparse_words_of, lt_pparse_words_wants, lt_pparse_parser_exprs, lt_pparse_parser_choice, lt_pparse_parser_loop, lt_pparse_parser_txn]
      rw [if_neg v2]
      by_cases v3 : v = kIf
      · rw [if_pos v3]
        rw [v3] at h3
        have h7 := fun r => choice_eq (d := d) (by omega) hto hst hles hi gu (by omega) (by omega) (by omega) hd0 (by omega) r
        obtain ⟨x, s2, hx⟩ : ∃ x s2, choiceP stm len d u = (x, s2) := ⟨_, _, rfl⟩
        simp only [hx] at h7 ⊢
        obtain ⟨x1, x2, x3, x4, x5, x6, x7⟩ := x
        simp only [Sm.cells_mk] at h7
        simp [-arith, c_pparse_parser_stmt, h1, h2, h3, h6, h7, gI, gT, hset, A6, hb1, hb2, hr0, hm0, hwc, Sm.cells_mk, hLen, Hp_len, hTk, hTk', hG0, hG1, hG1', hG2, hG2', hG2'', hS0, hS1, hS1', hS2, hS2', hS2'', lt_pparse_words_head, lt_parse_simple, lt_pparse_words_sees, lt_pparse_words_fail, lt_pparse_words_skip, lt_pparse_words_of, lt_pparse_words_wants, lt_pparse_parser_exprs, lt_pparse_parser_choice, lt_pparse_parser_loop, lt_pparse_parser_txn]
      rw [if_neg v3]
      by_cases v4 : v = kRepeat
      · rw [if_pos v4]
        rw [v4] at h3
        have h7 := fun r => loop17_eq (d := d) (by omega) hto hst hles hi gu (by omega) (by omega) (by omega) hd0 (by omega) r
        obtain ⟨x, s2, hx⟩ : ∃ x s2, loopP stm len d u = (x, s2) := ⟨_, _, rfl⟩
        simp only [hx] at h7 ⊢
        obtain ⟨x1, x2, x3, x4, x5, x6, x7⟩ := x
        simp only [Sm.cells_mk] at h7
        simp [-arith, c_pparse_parser_stmt, h1, h2, h3, h6, h7, gI, gT, hset, A6, hb1, hb2, hr0, hm0, hwc, Sm.cells_mk, hLen, Hp_len, hTk, hTk', hG0, hG1, hG1', hG2, hG2', hG2'', hS0, hS1, hS1', hS2, hS2', hS2'', lt_pparse_words_head, lt_parse_simple, lt_pparse_words_sees, lt_pparse_words_fail, lt_pparse_words_skip, lt_pparse_words_of, lt_pparse_words_wants, lt_pparse_parser_exprs, lt_pparse_parser_choice, lt_pparse_parser_loop, lt_pparse_parser_txn]
      rw [if_neg v4]
      have v5 : v = kTxn := by
        simp only [List.mem_cons, List.not_mem_nil, or_false] at hmem
        rcases hmem with h | h | h | h | h
        · exact absurd h v1
        · exact absurd h v2
        · exact absurd h v3
        · exact absurd h v4
        · exact h
      rw [v5] at h3
      have h7 := fun r => txn_eq (d := d) hto hst hi gu (by omega) (by omega) (by omega) hd0 (by omega) r
      obtain ⟨x, s2, hx⟩ : ∃ x s2, txnP stm len d u = (x, s2) := ⟨_, _, rfl⟩
      simp only [hx] at h7 ⊢
      obtain ⟨x1, x2, x3, x4, x5, x6, x7⟩ := x
      simp only [Sm.cells_mk] at h7
      simp [-arith, c_pparse_parser_stmt, h1, h2, h3, h6, h7, gI, gT, hset, A6, hb1, hb2, hr0, hm0, hwc, Sm.cells_mk, hLen, Hp_len, hTk, hTk', hG0, hG1, hG1', hG2, hG2', hG2'', hS0, hS1, hS1', hS2, hS2', hS2'', lt_pparse_words_head, lt_parse_simple, lt_pparse_words_sees, lt_pparse_words_fail, lt_pparse_words_skip, lt_pparse_words_of, lt_pparse_words_wants, lt_pparse_parser_exprs, lt_pparse_parser_choice, lt_pparse_parser_loop, lt_pparse_parser_txn]

theorem stmt_eq : ∀ n, n ≤ 5000 → SpecS (stmtP n) n
  | 0, _ => fun HB i hi s hs hl => by have := hs.pos; omega
  | n + 1, h => stmtB_eq (by omega) (stmtP_to n) (stmt_eq n (by omega)) (fun h1 => by
    obtain ⟨m, rfl⟩ : ∃ m, n = m + 1 := ⟨n - 1, by omega⟩
    exact stmtB_less (stmtP_to m) m)

end Go.AM.Spec

namespace Go.AM.Spec
set_option linter.unusedVariables false
set_option linter.unusedSimpArgs false
set_option maxHeartbeats 4000000
set_option maxRecDepth 10000
open PS

theorem namedP_to (key : List UInt8) (n : Nat) : Goes' (namedP key n) := fun s h => by
  unfold namedP
  obtain ⟨o, r, hr⟩ : ∃ o r, s.takes [key] = (o, r) := ⟨_, _, rfl⟩
  rw [hr]
  cases o with
  | none => obtain ⟨rfl, _⟩ := takes_none hr; exact to.refl h
  | some t =>
    have h1 := (takes_some h hr).2.2.1
    dsimp only
    split
    · have h2 := h1.trans (fail_to h1.good (show (14 : Int) ≠ 0 by omega) s.head)
      exact h2.trans (of_to h2.good 1)
    · exact h1.trans (of_to h1.good 1)

theorem named_eq (key : List UInt8) (n : Nat) {HB : Heap} {i : Nat} (hi : i < HB.length) {s : PS} (hs : s.good) {ni : Int} (hni : ni = (n : Int)) (r : Heap) :
    eval tbl noExt n_pparse_parser_named [.ptr i 0, .str key, .int .i64 ni] (Hp HB i s ++ r) = some (seesV (namedP key n s).1, Hp HB i (namedP key n s).2 ++ r) := by
  subst hni
  have h1 := fun r => phead_eq hi hs.ne r
  have h2 := fun r => takes_eq hi hs.ne [key] (by simp) (.inr rfl) r
  obtain ⟨w, hw⟩ : ∃ w, w = s.head := ⟨_, rfl⟩
  have hwc : w.cells = [iw w.kind, .str w.s, iw w.n, iw w.a] := rfl
  unfold namedP
  obtain ⟨o, s1, ho⟩ : ∃ o r, s.takes [key] = (o, r) := ⟨_, _, rfl⟩
  simp only [ho, seesV, List.map_cons, List.map_nil, tx] at h2 ⊢
  rw [← hw] at h1 ⊢
  rw [hwc] at h1
  rw [eval_M rfl rfl t_pparse_parser_named rfl]
  cases o with
  | none =>
    obtain ⟨rfl, _⟩ := takes_none ho
    simp [c_pparse_parser_named, h1, h2, hLen, Hp_len, hTk, hTk', hG0, hG1, hG1', hS0, hS1, hS1', lt_pparse_words_head, lt_pparse_words_takes]
  | some t =>
    have g1 := (takes_some hs ho).2.2.1
    have h3 := fun r => pfail_eq hi s1 14 w r
    rw [hwc] at h3
    dsimp only
    by_cases h16 : n = 16
    · have h16' : (n : Int) = 16 := by omega
      rw [if_pos h16]
      have g2 := fail_to g1.good (show (14 : Int) ≠ 0 by omega) w
      have h4 := fun r => of_eq hi g2.good.ne 1 r
      obtain ⟨x, s2, hx⟩ : ∃ x s2, (s1.fail 14 w).of 1 = (x, s2) := ⟨_, _, rfl⟩
      simp only [hx] at h4 ⊢
      have hxc : x.cells = [iw x.kind, .str x.s, iw x.n, iw x.a] := rfl
      rw [hxc] at h4
      simp [c_pparse_parser_named, h1, h2, h3, h4, h16, h16', hLen, Hp_len, hTk, hTk', hG0, hG1, hG1', hS0, hS1, hS1', lt_pparse_words_head, lt_pparse_words_takes, lt_pparse_words_of, lt_pparse_words_fail]
    · have h16' : ¬ (n : Int) = 16 := by omega
      rw [if_neg h16]
      have h4 := fun r => of_eq hi g1.good.ne 1 r
      obtain ⟨x, s2, hx⟩ : ∃ x s2, s1.of 1 = (x, s2) := ⟨_, _, rfl⟩
      simp only [hx] at h4 ⊢
      have hxc : x.cells = [iw x.kind, .str x.s, iw x.n, iw x.a] := rfl
      rw [hxc] at h4
      simp [c_pparse_parser_named, h1, h2, h4, h16, h16', hLen, Hp_len, hTk, hTk', hG0, hG1, hG1', hS0, hS1, hS1', lt_pparse_words_head, lt_pparse_words_takes, lt_pparse_words_of]

end Go.AM.Spec

namespace Go.AM.Spec
set_option linter.unusedVariables false
set_option linter.unusedSimpArgs false
set_option maxHeartbeats 4000000
set_option maxRecDepth 10000
open PS

def procsG (stm : SF) (len : Nat) : Nat → List (List UInt8 × List Sm) → PS → List (List UInt8 × List Sm) × PS
  | 0, l, s => (l, s)
  | k + 1, l, s => match namedP kProc l.length s with
    | (none, r) => (l, r)
    | (some nm, r) => procsG stm len k (l ++ [(nm, (blockP stm len 1 r).1)]) (blockP stm len 1 r).2

def prow (x : List UInt8 × List Sm) : List V := [.str x.1, .sl 7 (Sm.rows x.2)]

theorem named_some {key : List UInt8} {n : Nat} {s r : PS} (hs : s.good) {nm : List UInt8} (h : namedP key n s = (some nm, r)) : r.left.length + 1 ≤ s.left.length := by
  unfold namedP at h
  obtain ⟨o, s1, ho⟩ : ∃ o r, s.takes [key] = (o, r) := ⟨_, _, rfl⟩
  rw [ho] at h
  cases o with
  | none => cases h
  | some t =>
    obtain ⟨_, _, g1, hln, _, _⟩ := takes_some hs ho
    dsimp only at h
    split at h
    · have g2 := fail_to g1.good (show (14 : Int) ≠ 0 by omega) s.head
      have g3 := of_to g2.good 1
      have h1 := g2.len
      have h2 := g3.len
      cases h
      omega
    · have g3 := of_to g1.good 1
      have h2 := g3.len
      cases h
      omega

theorem proc_loop {stm : SF} {len : Nat} (hlen : len ≤ 5000) (hto : ∀ d, Goes' (stm d)) (hst : SpecS stm len) (hless : Less stm) {HB : Heap} {i : Nat} (hi : i < HB.length) (r : Heap) (z : Option (List V)) (Q : Option (V × Heap) → Prop) (kk : List Item) (L : List (List UInt8 × List Sm)) (S : PS)
    (hexit : ∀ φ', Fr.get φ' 0 = .ptr i 0 → Fr.get φ' 2 = .ptr (HB.length + r.length) 0 → Fr.get φ' 3 = .ptr (HB.length + (r.length + 1)) 0 → Q (M (eval tbl noExt) kk φ' (Hp HB i S ++ (r ++ [z, some [.own 2 (L.map prow), .own 7 [], .own 7 [], .own 5 []]])))) :
    ∀ (k : Nat) (l : List (List UInt8 × List Sm)) (s : PS) (φ : Fr), l.length + k ≤ 10000 → s.good → s.left.length ≤ len → s.left.length ≤ k → 0 ≤ s.st → s.st + (s.left.length : Int) ≤ 5000 → procsG stm len k l s = (L, S) → Fr.get φ 0 = .ptr i 0 → Fr.get φ 2 = .ptr (HB.length + r.length) 0 → Fr.get φ 3 = .ptr (HB.length + (r.length + 1)) 0 →
      Q (M (eval tbl noExt) (.code l_pparse_parser_program_0 :: .blk 0 :: kk) φ (Hp HB i s ++ (r ++ [z, some [.own 2 (l.map prow), .own 7 [], .own 7 [], .own 5 []]]))) := by
  intro k
  induction k with
  | zero => intro l s φ hk hs hl hlk; have := hs.pos; omega
  | succ k ih =>
    intro l s φ hk hs hl hlk h0 hb hG g0 g2 g3
    have h1 := fun r => named_eq kProc l.length hi hs rfl r
    have gto := namedP_to kProc l.length s hs
    unfold procsG at hG
    obtain ⟨o, s1, ho⟩ : ∃ o s1, namedP kProc l.length s = (o, s1) := ⟨_, _, rfl⟩
    simp only [ho, seesV] at h1 gto hG
    rw [l_pparse_parser_program_0, M_loop, ← l_pparse_parser_program_0]
    cases o with
    | none =>
      cases hG
      simp [b_pparse_parser_program_0, g0, g2, g3, h1, hLen, Hp_len, hTk, hTk', hG0, hG1, hG1', hS0, hS1, hS1', lt_pparse_parser_named]
      refine hexit _ ?_ ?_ ?_ <;> simp [g0, g2, g3]
    | some nm =>
      have hlt := named_some hs ho
      have hcnt := gto.cnt
      have h2 := fun r => pblock_eq hlen hto hst hless hi gto.good (by omega) (by omega) (by omega) 1 (by omega) (by omega) r
      have g4 := blockP_to (hto 1) len s1 gto.good
      obtain ⟨b, s2, hb2⟩ : ∃ b s2, blockP stm len 1 s1 = (b, s2) := ⟨_, _, rfl⟩
      simp only [hb2] at h2 g4 hG
      have hcnt2 := g4.cnt
      have hlen2 := g4.len
      have hcap : 2 * (l.length + 1) * 40 ≤ 281474976710656 := by omega
      have hnext := fun φ => ih (l ++ [(nm, b)]) s2 φ (by simp; omega) g4.good (by omega) (by omega) (by omega) (by omega) hG
      rw [List.map_append, List.map_cons, List.map_nil] at hnext
      simp only [prow] at hnext ⊢
      simp [b_pparse_parser_program_0, g0, g2, g3, h1, h2, hcap, hLen, Hp_len, hTk, hTk', hG0, hG1, hG1', hS0, hS1, hS1', lt_pparse_parser_named, lt_pparse_parser_block]
      refine hnext _ ?_ ?_ ?_ <;> simp [g0, g2, g3]

end Go.AM.Spec

namespace Go.AM.Spec
set_option linter.unusedVariables false
set_option linter.unusedSimpArgs false
set_option maxHeartbeats 4000000
set_option maxRecDepth 10000
open PS

def oraclesG (len : Nat) : Nat → List (List UInt8 × Ex) → PS → List (List UInt8 × Ex) × PS
  | 0, l, s => (l, s)
  | k + 1, l, s => match namedP kOracle l.length s with
    | (none, r) => (l, r)
    | (some nm, r) => oraclesG len k (l ++ [(nm, (wholeP gSe len (r.wants gCl)).1)]) ((wholeP gSe len (r.wants gCl)).2.wants gSe)

def orow (x : List UInt8 × Ex) : List V := .str x.1 :: x.2.cells

theorem oracle_loop {len : Nat} (hlen : len ≤ 5000) {HB : Heap} {i : Nat} (hi : i < HB.length) (r : Heap) (z : Option (List V)) (p m c : V) (Q : Option (V × Heap) → Prop) (kk : List Item) (L : List (List UInt8 × Ex)) (S : PS)
    (hexit : ∀ φ', Fr.get φ' 0 = .ptr i 0 → Fr.get φ' 2 = .ptr (HB.length + r.length) 0 → Fr.get φ' 3 = .ptr (HB.length + (r.length + 1)) 0 → Q (M (eval tbl noExt) kk φ' (Hp HB i S ++ (r ++ [z, some [p, m, c, .own 5 (L.map orow)]])))) :
    ∀ (k : Nat) (l : List (List UInt8 × Ex)) (s : PS) (φ : Fr), l.length + k ≤ 10000 → s.good → s.left.length ≤ len → s.left.length ≤ k → oraclesG len k l s = (L, S) → Fr.get φ 0 = .ptr i 0 → Fr.get φ 2 = .ptr (HB.length + r.length) 0 → Fr.get φ 3 = .ptr (HB.length + (r.length + 1)) 0 →
      Q (M (eval tbl noExt) (.code l_pparse_parser_program_1 :: .blk 2 :: kk) φ (Hp HB i s ++ (r ++ [z, some [p, m, c, .own 5 (l.map orow)]]))) := by
  intro k
  induction k with
  | zero => intro l s φ hk hs hl hlk; have := hs.pos; omega
  | succ k ih =>
    intro l s φ hk hs hl hlk hG g0 g2 g3
    have h1 := fun r => named_eq kOracle l.length hi hs rfl r
    have gto := namedP_to kOracle l.length s hs
    unfold oraclesG at hG
    obtain ⟨o, s1, ho⟩ : ∃ o s1, namedP kOracle l.length s = (o, s1) := ⟨_, _, rfl⟩
    simp only [ho, seesV] at h1 gto hG
    rw [l_pparse_parser_program_1, M_loop, ← l_pparse_parser_program_1]
    cases o with
    | none =>
      cases hG
      simp [b_pparse_parser_program_1, g0, g2, g3, h1, hLen, Hp_len, hTk, hTk', hG0, hG1, hG1', hS0, hS1, hS1', lt_pparse_parser_named]
      refine hexit _ ?_ ?_ ?_ <;> simp [g0, g2, g3]
    | some nm =>
      have hlt := named_some hs ho
      have h2 := fun r => wants_eq hi gto.good.ne gCl r
      have t2 := wants_to gto.good gCl
      have h3 := fun r => pwhole_eq gSe len hi t2.good (Nat.le_trans t2.len (by omega)) r
      have t3 := t2.trans (wholeP_to gSe len _ t2.good)
      obtain ⟨x, s2, hx⟩ : ∃ x s2, wholeP gSe len (s1.wants gCl) = (x, s2) := ⟨_, _, rfl⟩
      simp only [hx] at h3 t3 hG
      have h4 := fun r => wants_eq hi t3.good.ne gSe r
      have t4 := t3.trans (wants_to t3.good gSe)
      have hlen4 := t4.len
      have hcap : 2 * (l.length + 1) * 72 ≤ 281474976710656 := by omega
      have hnext := fun φ => ih (l ++ [(nm, x)]) (s2.wants gSe) φ (by simp; omega) t4.good (by omega) (by omega) hG
      rw [List.map_append, List.map_cons, List.map_nil] at hnext
      obtain ⟨xo, xn, xt, xl⟩ := x
      simp only [Ex.cells_mk] at h3
      have hor : orow (nm, Ex.mk xo xn xt xl) = [.str nm, .int .i64 xo, .int .i64 xn, .str xt, .sl 4 (Ex.rows xl)] := rfl
      rw [hor] at hnext
      simp [b_pparse_parser_program_1, g0, g2, g3, h1, h2, h3, h4, hcap, hLen, Hp_len, hTk, hTk', hG0, hG1, hG1', hS0, hS1, hS1', lt_pparse_parser_named, lt_pparse_parser_whole, lt_pparse_words_wants]
      refine hnext _ ?_ ?_ ?_ <;> simp [g0, g2, g3]

end Go.AM.Spec

namespace Go.AM.Spec
set_option linter.unusedVariables false
set_option linter.unusedSimpArgs false
set_option maxHeartbeats 4000000
set_option maxRecDepth 10000
open PS

def recP (n : Nat) (s : PS) : List Sm × PS := match s.takes [kRecover] with
  | (some _, r) => blockP (stmtP n) n 1 r
  | (none, r) => ([], r)
def programP (n : Nat) (s : PS) : Pg × PS :=
  let a := procsG (stmtP n) n n [] s
  let b := blockP (stmtP n) n 1 (a.2.wants kMain)
  let c := recP n b.2
  let o := oraclesG n n [] c.2
  (⟨a.1, b.1, c.1, o.1⟩, (o.2.of 0).2)

theorem procsG_to {stm : SF} {len : Nat} (hto : ∀ d, Goes' (stm d)) : ∀ (k : Nat) (l : List (List UInt8 × List Sm)), Goes' (procsG stm len k l)
  | 0, l => fun s h => to.refl h
  | k + 1, l => fun s h => by
    have h1 := namedP_to kProc l.length s h
    unfold procsG
    obtain ⟨o, r, ho⟩ : ∃ o r, namedP kProc l.length s = (o, r) := ⟨_, _, rfl⟩
    rw [ho] at h1 ⊢
    cases o with
    | none => exact h1
    | some nm =>
      have h2 := h1.trans (blockP_to (hto 1) len r h1.good)
      exact h2.trans (procsG_to hto k _ _ h2.good)
theorem oraclesG_to {len : Nat} : ∀ (k : Nat) (l : List (List UInt8 × Ex)), Goes' (oraclesG len k l)
  | 0, l => fun s h => to.refl h
  | k + 1, l => fun s h => by
    have h1 := namedP_to kOracle l.length s h
    unfold oraclesG
    obtain ⟨o, r, ho⟩ : ∃ o r, namedP kOracle l.length s = (o, r) := ⟨_, _, rfl⟩
    rw [ho] at h1 ⊢
    cases o with
    | none => exact h1
    | some nm =>
      have h2 := h1.trans (wants_to h1.good gCl)
      have h3 := h2.trans (wholeP_to gSe len _ h2.good)
      have h4 := h3.trans (wants_to h3.good gSe)
      exact h4.trans (oraclesG_to k _ _ h4.good)
theorem recP_to (n : Nat) : Goes' (recP n) := fun s h => by
  unfold recP
  obtain ⟨o, r, ho⟩ : ∃ o r, s.takes [kRecover] = (o, r) := ⟨_, _, rfl⟩
  rw [ho]
  cases o with
  | none => obtain ⟨rfl, _⟩ := takes_none ho; exact to.refl h
  | some t =>
    have h1 := (takes_some h ho).2.2.1
    exact h1.trans (blockP_to (stmtP_to n 1) n r h1.good)

theorem program_eq (n : Nat) (hn : n ≤ 5000) {HB : Heap} {i : Nat} (hi : i < HB.length) {s : PS} (hs : s.good) (hl : s.left.length ≤ n) (h0 : 0 ≤ s.st) (hb : s.st + (s.left.length : Int) ≤ 5000) (r : Heap) :
    eval tbl noExt n_pparse_parser_program [.ptr i 0] (Hp HB i s ++ r) = some (.agg (programP n s).1.cells, Hp HB i (programP n s).2 ++ r) := by
  have hpos := hs.pos
  have hless : Less (stmtP n) := by
    obtain ⟨m, rfl⟩ : ∃ m, n = m + 1 := ⟨n - 1, by omega⟩
    exact stmtB_less (stmtP_to m) m
  have hst := stmt_eq n hn
  unfold programP
  dsimp only
  have ga := procsG_to (len := n) (stmtP_to n) n [] s hs
  obtain ⟨A, s1, hA⟩ : ∃ A s1, procsG (stmtP n) n n [] s = (A, s1) := ⟨_, _, rfl⟩
  simp only [hA] at ga ⊢
  have h1 := fun r => wants_eq hi ga.good.ne kMain r
  have g1 := ga.trans (wants_to ga.good kMain)
  have c1 := g1.cnt
  have h2 := fun r => pblock_eq hn (stmtP_to n) hst hless hi g1.good (Nat.le_trans g1.len hl) (by omega) (by omega) 1 (by omega) (by omega) r
  have g2 := g1.trans (blockP_to (stmtP_to n 1) n _ g1.good)
  obtain ⟨B, s2, hB⟩ : ∃ B s2, blockP (stmtP n) n 1 (s1.wants kMain) = (B, s2) := ⟨_, _, rfl⟩
  simp only [hB] at h2 g2 ⊢
  have c2 := g2.cnt
  have h3 := fun r => takes_eq hi g2.good.ne [kRecover] (by simp) (.inr rfl) r
  have g3 := g2.trans (recP_to n s2 g2.good)
  obtain ⟨C, s3, hC⟩ : ∃ C s3, recP n s2 = (C, s3) := ⟨_, _, rfl⟩
  simp only [hC] at g3 ⊢
  have go := g3.trans (oraclesG_to (len := n) n [] s3 g3.good)
  obtain ⟨O, s4, hO⟩ : ∃ O s4, oraclesG n n [] s3 = (O, s4) := ⟨_, _, rfl⟩
  simp only [hO] at go ⊢
  have h5 := fun r => of_eq hi go.good.ne 0 r
  have hcells : (Pg.mk A B C O).cells = [.sl 2 (A.map prow), .sl 7 (Sm.rows B), .sl 7 (Sm.rows C), .sl 5 (O.map orow)] := rfl
  rw [hcells]
  obtain ⟨z, hz⟩ : ∃ z, z = [V.own 2 [], .own 7 [], .own 7 [], .own 5 []] := ⟨_, rfl⟩
  obtain ⟨o, s2', ho⟩ : ∃ o s2', s2.takes [kRecover] = (o, s2') := ⟨_, _, rfl⟩
  simp only [ho, seesV, List.map_cons, List.map_nil, tx] at h3
  have hrec := hC
  unfold recP at hrec
  rw [ho] at hrec
  have hfin : ∀ φ' c, Fr.get φ' 0 = .ptr i 0 → Fr.get φ' 2 = .ptr (HB.length + r.length) 0 → Fr.get φ' 3 = .ptr (HB.length + (r.length + 1)) 0 → V.strip c = .sl 7 (Sm.rows C) → (c = .own 7 (Sm.rows C)) →
      M (eval tbl noExt) [.code l_pparse_parser_program_1, .blk 2, .code r_pparse_parser_program_0, .fin [.cell 2 (some 4)] (HB.length + r.length)] φ' (Hp HB i s3 ++ (r ++ [some z, some [.own 2 (A.map prow), .own 7 (Sm.rows B), c, .own 5 []]])) = some (.agg [.sl 2 (A.map prow), .sl 7 (Sm.rows B), .sl 7 (Sm.rows C), .sl 5 (O.map orow)], Hp HB i (s4.of 0).2 ++ r) := by
    intro φ' c g0 g2' g3' _ hc
    subst hc
    refine oracle_loop hn hi r (some z) _ _ _ (fun x => x = _) _ O s4 (fun φ'' k0 k2 k3 => ?_) n [] s3 φ' (by simp; omega) g3.good (Nat.le_trans g3.len hl) (Nat.le_trans g3.len hl) hO g0 g2' g3'
    subst hz
    simp [r_pparse_parser_program_0, k0, k2, k3, h5, hLen, Hp_len, hTk, hTk', hG0, hG1, hG1', hS0, hS1, hS1', lt_pparse_words_of]
  rw [eval_M rfl rfl t_pparse_parser_program rfl]
  have hloop := fun φ => proc_loop hn (stmtP_to n) hst hless hi r (some z) (fun x => x = some (V.agg [.sl 2 (A.map prow), .sl 7 (Sm.rows B), .sl 7 (Sm.rows C), .sl 5 (O.map orow)], Hp HB i (s4.of 0).2 ++ r)) [.code r_pparse_parser_program_1, .fin [.cell 2 (some 4)] (HB.length + r.length)] A s1 (fun φ' k0 k2 k3 => by
    cases o with
    | none =>
      obtain ⟨rfl, _⟩ := takes_none ho
      dsimp only at hrec
      obtain ⟨rfl, rfl⟩ : C = [] ∧ s3 = s2' := by cases hrec; exact ⟨rfl, rfl⟩
      simp [r_pparse_parser_program_1, k0, k2, k3, h1, h2, h3, hLen, Hp_len, hTk, hTk', hG0, hG1, hG1', hS0, hS1, hS1', lt_pparse_words_wants, lt_pparse_words_takes, lt_pparse_parser_block]
      refine hfin _ _ ?_ ?_ ?_ ?_ ?_ <;> simp [k0, k2, k3, Sm.rows]
    | some t =>
      have gt := g2.trans (takes_some g2.good ho).2.2.1
      have c3 := gt.cnt
      have h4 := fun r => pblock_eq hn (stmtP_to n) hst hless hi gt.good (Nat.le_trans gt.len hl) (by omega) (by omega) 1 (by omega) (by omega) r
      dsimp only at hrec
      simp only [hrec] at h4
      simp [r_pparse_parser_program_1, k0, k2, k3, h1, h2, h3, h4, hLen, Hp_len, hTk, hTk', hG0, hG1, hG1', hS0, hS1, hS1', lt_pparse_words_wants, lt_pparse_words_takes, lt_pparse_parser_block]
      refine hfin _ _ ?_ ?_ ?_ ?_ ?_ <;> simp [k0, k2, k3]) n [] s φ (by simp; omega) hs hl hl h0 hb hA
  subst hz
  simp [c_pparse_parser_program, hLen, Hp_len]
  refine hloop _ ?_ ?_ ?_ <;> simp

end Go.AM.Spec

namespace Go.AM.Spec
set_option linter.unusedVariables false
set_option linter.unusedSimpArgs false
open PS

end Go.AM.Spec

namespace Go.AM.Spec
set_option linter.unusedVariables false
set_option linter.unusedSimpArgs false
set_option maxRecDepth 10000
open PS

/-- What is reached from a state: words skipped, faults at words that were seen, statements begun (if any may). -/
inductive Led (b : Bool) (s0 : PS) : PS → Prop
  | refl : Led b s0 s0
  | skip {r : PS} : Led b s0 r → Led b s0 r.skip
  | fail {r q : PS} {e : Int} : Led b s0 r → e ≠ 0 → Led b s0 q → Led b s0 (r.fail e q.head)
  | none {r : PS} {e : Int} : Led b s0 r → e ≠ 0 → Led b s0 (r.fail e zw)
  | step {r : PS} : b = true → Led b s0 r → r.st + 1 ≤ 256 → Led b s0 ⟨r.left, r.fe, r.fa, r.st + 1, r.o⟩
  | over {r q : PS} {e : Int} : b = true → Led b s0 r → e ≠ 0 → Led b s0 q → Led b s0 (PS.fail ⟨r.left, r.fe, r.fa, r.st + 1, r.o⟩ e q.head)

theorem Led.trans {b : Bool} {s r t : PS} (h : Led b s r) (k : Led b r t) : Led b s t := by
  induction k with
  | refl => exact h
  | skip _ ih => exact .skip ih
  | fail _ he _ ih1 ih2 => exact .fail ih1 he ih2
  | none _ he ih => exact .none ih he
  | step hb _ hs ih => exact .step hb ih hs
  | over hb _ he _ ih1 ih2 => exact .over hb ih1 he ih2

/-- Without statements their number stays. -/
theorem Led.st {s r : PS} (h : Led false s r) : r.st = s.st := by
  induction h with
  | refl => rfl
  | skip _ ih => rw [← ih]; unfold PS.skip; split <;> rfl
  | fail _ he _ ih1 ih2 => exact ih1
  | none _ he ih => exact ih
  | step hb _ hs ih => cases hb
  | over hb _ he _ ih1 ih2 => cases hb

theorem skip_clean {r : PS} (h : r.skip.clean) : r.clean := by
  unfold PS.skip at h
  split at h
  · exact h
  · exact h

/-- Without a fault there are not too many statements. -/
theorem Led.most {b : Bool} {s r : PS} (h : Led b s r) (h0 : s.clean → s.st ≤ 256) : r.clean → r.st ≤ 256 := by
  induction h with
  | refl => exact h0
  | skip _ ih =>
    intro hc
    have := ih (skip_clean hc)
    unfold PS.skip
    split
    · exact this
    · exact this
  | fail _ he _ ih1 ih2 => exact fun hc => absurd hc (fail_dirty he _)
  | none _ he ih => exact fun hc => absurd hc (fail_dirty he _)
  | step hb _ hs ih => exact fun _ => hs
  | over hb _ he _ ih1 ih2 => exact fun hc => absurd hc (fail_dirty he _)

/-- What a word of a text is. -/
structure W1 (L : Int) (w : Wx) : Prop where
  num : w.kind = 2 → 0 ≤ w.n ∧ w.n ≤ 1000000000000
  text : w.kind = 3 → w.s.length ≤ 64
  name : w.kind = 1 → isName w.s = true
  sign : w.kind = 4 ∨ w.kind = 5 → w.s ≠ []
  short : w.kind = 5 → w.s.length ≤ 2
  place : 0 ≤ w.a ∧ w.a ≤ L

structure PS.fed (L : Int) (s : PS) : Prop where
  words : ∀ w ∈ s.left, W1 L w
  place : 0 ≤ s.fa ∧ s.fa ≤ L
  none : s.fe = 0 → s.fa = 0

theorem W1.zero {L : Int} (hL : 0 ≤ L) : W1 L zw := ⟨by simp [zw], by simp [zw], by simp [zw], by simp [zw], by simp [zw], by simp [zw]; exact hL⟩
theorem PS.fed.head {L : Int} (hL : 0 ≤ L) {s : PS} (h : s.fed L) : W1 L s.head := by
  unfold PS.head
  cases hl : s.left with
  | nil => exact W1.zero hL
  | cons w l => exact h.words w (by rw [hl]; simp)
theorem PS.fed.fail {L : Int} (hL : 0 ≤ L) {s : PS} (h : s.fed L) {w : Wx} (hw : W1 L w) {e : Int} (he : e ≠ 0) : (s.fail e w).fed L := by
  refine ⟨fun x hx => ?_, ?_, fun h0 => ?_⟩
  · have : x = zw := by simpa [PS.fail] using hx
    rw [this]; exact W1.zero hL
  · show 0 ≤ (if s.clean then w.a else s.fa) ∧ (if s.clean then w.a else s.fa) ≤ L
    split
    · exact hw.place
    · exact h.place
  · have h0' : (if s.clean then e else s.fe) = 0 := h0
    show (if s.clean then w.a else s.fa) = 0
    by_cases hc : s.clean
    · rw [if_pos hc] at h0'; exact absurd h0' he
    · rw [if_neg hc] at h0' ⊢; exact h.none h0'
theorem Led.fed {b : Bool} {L : Int} (hL : 0 ≤ L) {s r : PS} (h : Led b s r) (h0 : s.fed L) : r.fed L := by
  induction h with
  | refl => exact h0
  | skip _ ih =>
    unfold PS.skip
    split
    · exact ⟨fun w hw => ih.words w (List.mem_of_mem_tail hw), ih.place, ih.none⟩
    · exact ih
  | fail _ he _ ih1 ih2 => exact ih1.fail hL (ih2.head hL) he
  | none _ he ih => exact ih.fail hL (W1.zero hL) he
  | step hb _ hs ih => exact ⟨ih.words, ih.place, ih.none⟩
  | @over r q e hb _ he _ ih1 ih2 =>
    have h1 : PS.fed L ⟨r.left, r.fe, r.fa, r.st + 1, r.o⟩ := ⟨ih1.words, ih1.place, ih1.none⟩
    exact h1.fail hL (ih2.head hL) he

theorem takes_led {b : Bool} (s : PS) (l : List (List UInt8)) : Led b s (s.takes l).2 := by
  unfold PS.takes
  split
  · exact .skip .refl
  · exact .refl
theorem takes_led' {b : Bool} {s r : PS} {l : List (List UInt8)} {o : Option (List UInt8)} (h : s.takes l = (o, r)) : Led b s r := by
  have := takes_led (b := b) s l
  rwa [h] at this
theorem wants_led {b : Bool} (s : PS) (t : List UInt8) : Led b s (s.wants t) := by
  unfold PS.wants
  obtain ⟨o, r, hr⟩ : ∃ o r, s.takes [t] = (o, r) := ⟨_, _, rfl⟩
  have h := takes_led' (b := b) hr
  rw [hr]
  cases o with
  | none => exact .fail h (by omega) h
  | some u => exact h
theorem of_led {b : Bool} (s : PS) (k : Int) : Led b s (s.of k).2 := by
  unfold PS.of
  split
  · exact .fail .refl (by omega) .refl
  · exact .skip .refl

/-- A part of the grammar. -/
def Leads {α : Type} (b : Bool) (f : PS → α × PS) : Prop := ∀ s : PS, Led b s (f s).2

section
variable {b : Bool}
theorem chainP_led {part : PF} (hp : Leads b part) (signs : List (List UInt8)) : ∀ (n : Nat) (x : Ex), Leads b (chainP part signs n x)
  | 0, x => fun s => .refl
  | n + 1, x => fun s => by
    unfold chainP
    obtain ⟨o, r, hr⟩ : ∃ o r, s.takes signs = (o, r) := ⟨_, _, rfl⟩
    have h1 := takes_led' (b := b) hr
    rw [hr]
    cases o with
    | none => exact h1
    | some t => exact h1.trans ((hp r).trans (chainP_led hp signs n _ _))
theorem chain_led {part : PF} (hp : Leads b part) (signs : List (List UInt8)) (n : Nat) : Leads b (chain part signs n) := fun s => (hp s).trans (chainP_led hp signs n _ _)
theorem innerP_led {ex : PF} (he : Leads b ex) : Leads b (innerP ex) := fun s => ((wants_led s gLp).trans (he _)).trans (wants_led _ gRp)
theorem partP_led {ex : PF} (he : Leads b ex) : Leads b (partP ex) := fun s => by
  unfold partP
  split
  · exact .skip .refl
  · split
    · exact .skip .refl
    · split
      · exact .skip .refl
      · split
        · exact innerP_led he s
        · obtain ⟨o, r, hr⟩ : ∃ o r, s.takes [kTrue, kFalse, kExists, kSize, kRead] = (o, r) := ⟨_, _, rfl⟩
          have h1 := takes_led' (b := b) hr
          rw [hr]
          cases o with
          | none => exact .fail h1 (by omega) .refl
          | some t =>
            dsimp only
            split
            · exact h1
            · split
              · exact h1
              · exact h1.trans (innerP_led he r)
theorem sumP_led {ex : PF} (he : Leads b ex) : Leads b (sumP ex) := chain_led (partP_led he) _ _
theorem cmpP_led {ex : PF} (he : Leads b ex) : Leads b (cmpP ex) := chain_led (sumP_led he) _ _
theorem notP_led {ex : PF} (he : Leads b ex) : ∀ n, Leads b (notP ex n)
  | 0 => cmpP_led he
  | n + 1 => fun s => by
    unfold notP
    obtain ⟨o, r, hr⟩ : ∃ o r, s.takes [kNot] = (o, r) := ⟨_, _, rfl⟩
    have h1 := takes_led' (b := b) hr
    rw [hr]
    cases o with
    | none => exact h1.trans (cmpP_led he _)
    | some t => exact h1.trans (notP_led he n r)
theorem bothP_led {ex : PF} (he : Leads b ex) (n : Nat) : Leads b (bothP ex n) := chain_led (notP_led he n) _ _
theorem orP_led {ex : PF} (he : Leads b ex) (n : Nat) : Leads b (orP ex n) := chain_led (bothP_led he n) _ _
theorem exprP_led : ∀ n, Leads b (exprP n)
  | 0 => fun s => .refl
  | n + 1 => orP_led (exprP_led n) n
theorem wholeP_led (t : List UInt8) (n : Nat) : Leads b (wholeP t n) := fun s => by
  have h1 := exprP_led (b := b) n s
  unfold wholeP
  dsimp only
  split
  · exact h1
  · split
    · exact .fail h1 (by omega) h1
    · split
      · exact .fail h1 (by omega) .refl
      · exact h1
theorem exprsG_led (n : Nat) : ∀ (k : Nat) (l : List Ex), Leads b (exprsG n k l)
  | 0, l => fun s => .refl
  | k + 1, l => fun s => by
    unfold exprsG
    dsimp only
    exact ((wholeP_led _ n s).trans (wants_led _ _)).trans (exprsG_led n k _ _)
theorem exprsP_led (n : Nat) (op : Int) : Leads b (exprsP n op) := fun s => by
  unfold exprsP
  split
  · exact wants_led s _
  · exact exprsG_led n _ _ s
theorem blockG_led {stm : PS → Sm × PS} (hs : Leads b stm) : ∀ (k : Nat) (l : List Sm), Leads b (blockG stm k l)
  | 0, l => fun s => .refl
  | k + 1, l => fun s => by
    unfold blockG
    split
    · exact .refl
    · obtain ⟨o, r, hr⟩ : ∃ o r, s.takes [gRb] = (o, r) := ⟨_, _, rfl⟩
      have h1 := takes_led' (b := b) hr
      rw [hr]
      cases o with
      | none => exact h1.trans ((hs _).trans (blockG_led hs k _ _))
      | some t => exact h1
theorem blockP_led {stm : SF} {deep : Int} (hs : Leads b (stm deep)) (n : Nat) : Leads b (blockP stm n deep) := fun s => (wants_led s gLb).trans (blockG_led hs n _ _)
theorem txnG_led {stm : PS → Sm × PS} (hs : Leads b stm) : ∀ (k : Nat) (l : List Sm), Leads b (txnG stm k l)
  | 0, l => fun s => by
    unfold txnG
    split
    · exact .fail .refl (by omega) .refl
    · exact .refl
  | k + 1, l => fun s => by
    unfold txnG
    split
    · exact (hs _).trans (txnG_led hs k _ _)
    · exact .refl
theorem txnP_led {stm : SF} {deep : Int} (hs : Leads b (stm (deep + 1))) (n : Nat) : Leads b (txnP stm n deep) := fun s => by
  unfold txnP
  dsimp only
  exact (((((wholeP_led gLb n s).trans (wants_led _ gLb)).trans (txnG_led hs 8 [] _)).trans (wants_led _ gRb)).trans (takes_led _ [kCommit])).trans (wants_led _ gSe)
theorem of_fail_led {s : PS} {k e : Int} (he : e ≠ 0) : Led b s ((s.of k).2.fail e (s.of k).1) := by
  have h1 := of_led (b := b) s k
  have h2 : (s.of k).1 = zw ∨ (s.of k).1 = s.head := by unfold PS.of; split <;> simp
  rcases h2 with h2 | h2 <;> rw [h2]
  · exact .none h1 he
  · exact .fail h1 he .refl
theorem loopP_led {stm : SF} {deep : Int} (hs : Leads b (stm (deep + 1))) (n : Nat) : Leads b (loopP stm n deep) := fun s => by
  unfold loopP
  dsimp only
  have h2 : Led b s (if 16 < (s.of 2).1.n then (s.of 2).2.fail 14 (s.of 2).1 else (s.of 2).2) := by
    split
    · exact of_fail_led (by omega)
    · exact of_led s 2
  exact h2.trans (blockP_led hs n _)
theorem choiceP_led {stm : SF} {deep : Int} (hs : Leads b (stm (deep + 1))) (n : Nat) : Leads b (choiceP stm n deep) := fun s => by
  unfold choiceP
  dsimp only
  have h2 := (wholeP_led (b := b) gLb n s).trans (blockP_led hs n _)
  obtain ⟨o, r, hr⟩ : ∃ o r, (blockP stm n (deep + 1) (wholeP gLb n s).2).2.takes [kElse] = (o, r) := ⟨_, _, rfl⟩
  have h3 := h2.trans (takes_led' (b := b) hr)
  rw [hr]
  cases o with
  | none => exact h3
  | some t => exact h3.trans (blockP_led hs n _)
theorem letP_led (n : Nat) : Leads b (letP n) := fun s => by
  unfold letP
  dsimp only
  exact ((of_led s 1).trans (wants_led _ [61])).trans (exprsP_led n 12 _)
theorem callP_led (n : Nat) : Leads b (callP n) := fun s => by
  unfold callP
  dsimp only
  exact (of_led s 1).trans (exprsP_led n 15 _)
end

theorem stmtB_led {stm : SF} (hs : ∀ d, Leads true (stm d)) (n : Nat) (deep : Int) : Leads true (stmtB stm n deep) := fun s => by
  unfold stmtB
  dsimp only
  split
  · exact .fail .refl (by omega) .refl
  · split
    · exact .over rfl .refl (by omega) .refl
    · rename_i hno
      have h1 : Led true s (PS.skip ⟨s.left, s.fe, s.fa, s.st + 1, s.o⟩) := .skip (.step rfl .refl (by omega))
      split
      · exact h1.trans (exprsP_led n _ _)
      · split
        · exact h1.trans (letP_led n _)
        · split
          · exact h1.trans (callP_led n _)
          · split
            · exact h1.trans (choiceP_led (hs _) n _)
            · split
              · exact h1.trans (loopP_led (hs _) n _)
              · exact h1.trans (txnP_led (hs _) n _)
theorem stmtP_led : ∀ (n : Nat) (deep : Int), Leads true (stmtP n deep)
  | 0, _ => fun s => .refl
  | n + 1, deep => stmtB_led (stmtP_led n) n deep

theorem namedP_led {b : Bool} (key : List UInt8) (n : Nat) : Leads b (namedP key n) := fun s => by
  unfold namedP
  obtain ⟨o, r, hr⟩ : ∃ o r, s.takes [key] = (o, r) := ⟨_, _, rfl⟩
  have h1 := takes_led' (b := b) hr
  rw [hr]
  cases o with
  | none => exact h1
  | some t =>
    dsimp only
    split
    · exact (Led.fail h1 (by omega) .refl).trans (of_led _ 1)
    · exact h1.trans (of_led _ 1)
theorem procsG_led {stm : SF} {len : Nat} (hto : ∀ d, Leads true (stm d)) : ∀ (k : Nat) (l : List (List UInt8 × List Sm)), Leads true (procsG stm len k l)
  | 0, l => fun s => .refl
  | k + 1, l => fun s => by
    have h1 := namedP_led (b := true) kProc l.length s
    unfold procsG
    obtain ⟨o, r, ho⟩ : ∃ o r, namedP kProc l.length s = (o, r) := ⟨_, _, rfl⟩
    rw [ho] at h1 ⊢
    cases o with
    | none => exact h1
    | some nm => exact (h1.trans (blockP_led (hto 1) len r)).trans (procsG_led hto k _ _)
theorem oraclesG_led {b : Bool} {len : Nat} : ∀ (k : Nat) (l : List (List UInt8 × Ex)), Leads b (oraclesG len k l)
  | 0, l => fun s => .refl
  | k + 1, l => fun s => by
    have h1 := namedP_led (b := b) kOracle l.length s
    unfold oraclesG
    obtain ⟨o, r, ho⟩ : ∃ o r, namedP kOracle l.length s = (o, r) := ⟨_, _, rfl⟩
    rw [ho] at h1 ⊢
    cases o with
    | none => exact h1
    | some nm => exact (((h1.trans (wants_led _ gCl)).trans (wholeP_led gSe len _)).trans (wants_led _ gSe)).trans (oraclesG_led k _ _)
theorem recP_led (n : Nat) : Leads true (recP n) := fun s => by
  unfold recP
  obtain ⟨o, r, ho⟩ : ∃ o r, s.takes [kRecover] = (o, r) := ⟨_, _, rfl⟩
  have h1 := takes_led' (b := true) ho
  rw [ho]
  cases o with
  | none => exact h1
  | some t => exact h1.trans (blockP_led (stmtP_led n 1) n r)
theorem programP_led (n : Nat) : Leads true (programP n) := fun s => by
  unfold programP
  dsimp only
  exact (((((procsG_led (len := n) (stmtP_led n) n [] s).trans (wants_led _ kMain)).trans (blockP_led (stmtP_led n 1) n _)).trans (recP_led n _)).trans (oraclesG_led (len := n) n [] _)).trans (of_led _ 0)

end Go.AM.Spec

namespace Go.AM.Spec
set_option linter.unusedVariables false
set_option linter.unusedSimpArgs false
set_option maxRecDepth 10000
open PS

theorem wants_clean {s : PS} (h : s.good) {t : List UInt8} (hc : (s.wants t).clean) : s.clean ∧ (s.wants t).left.length + 1 = s.left.length := by
  have h0 := (wants_to h t).clean hc
  refine ⟨h0, ?_⟩
  unfold PS.wants at hc ⊢
  obtain ⟨o, r, hr⟩ : ∃ o r, s.takes [t] = (o, r) := ⟨_, _, rfl⟩
  rw [hr] at hc ⊢
  cases o with
  | none => exact absurd hc (fail_dirty (by omega) _)
  | some u => exact (takes_some h hr).2.2.2.1

theorem of_clean {s : PS} (h : s.good) {k : Int} (hc : (s.of k).2.clean) : s.clean ∧ s.head.kind = k ∧ s.of k = (s.head, s.skip) := by
  have h0 := (of_to h k).clean hc
  refine ⟨h0, ?_⟩
  unfold PS.of at hc ⊢
  by_cases hk : s.head.kind ≠ k
  · rw [if_pos hk] at hc; exact absurd hc (fail_dirty (by omega) _)
  · rw [if_neg hk]; exact ⟨Decidable.byContradiction hk, rfl⟩

theorem whole_clean {t : List UInt8} {n : Nat} {s : PS} (hc : (wholeP t n s).2.clean) : wholeP t n s = exprP n s ∧ (exprP n s).1.deep ≤ 8 ∧ (((exprP n s).2.sees [t]).isSome ∨ t = [] ∧ (exprP n s).2.head.kind = 0) := by
  unfold wholeP at hc ⊢
  dsimp only at hc ⊢
  by_cases h1 : (exprP n s).2.clean
  · rw [if_neg (by simpa using h1)] at hc ⊢
    by_cases h2 : ((exprP n s).2.sees [t]).isNone ∧ ¬ (t = [] ∧ (exprP n s).2.head.kind = 0)
    · rw [if_pos h2] at hc; exact absurd hc (fail_dirty (by omega) _)
    · rw [if_neg h2] at hc ⊢
      by_cases h3 : 8 < (exprP n s).1.deep
      · rw [if_pos h3] at hc; exact absurd hc (fail_dirty (by omega) _)
      · rw [if_neg h3]
        refine ⟨rfl, by omega, ?_⟩
        by_cases h4 : ((exprP n s).2.sees [t]).isSome
        · exact .inl h4
        · right
          have h5 : ((exprP n s).2.sees [t]).isNone := by simpa using h4
          exact Decidable.byContradiction fun h6 => h2 ⟨h5, h6⟩
  · rw [if_pos h1] at hc; exact absurd hc h1

end Go.AM.Spec

namespace Go.AM.Spec
set_option linter.unusedVariables false
set_option linter.unusedSimpArgs false
set_option maxHeartbeats 2000000
set_option maxRecDepth 10000
open PS

theorem val_le : ∀ (l : List UInt8) (a v : Int), l.length ≤ 13 → 0 ≤ a → a < ((10 ^ (13 - l.length) : Nat) : Int) → val a l = some v → 0 ≤ v
  | [], a, v, hl, h, hb, e => by simp only [val] at e; cases e; exact h
  | c :: l, a, v, hl, h, hb, e => by
    simp only [List.length_cons] at hl hb
    have h10 : (10 : Nat) ^ (13 - l.length) = 10 * 10 ^ (13 - (l.length + 1)) := by
      have : 13 - l.length = (13 - (l.length + 1)) + 1 := by omega
      rw [this, Nat.pow_succ, Nat.mul_comm]
    have hp : (10 : Nat) ^ (13 - (l.length + 1)) ≤ 10 ^ 13 := Nat.pow_le_pow_right (by omega) (by omega)
    have e13 : (10 : Nat) ^ 13 = 10000000000000 := by decide
    rw [e13] at hp
    generalize (10 : Nat) ^ (13 - (l.length + 1)) = q at hb h10 hp
    simp only [val] at e
    split at e
    · cases e
    · rename_i hc
      have w1 : IntKind.i64.wrap (a * 10) = a * 10 := w64 (by omega) (by omega)
      have w2 : IntKind.i64.wrap (a * 10 + ((c.toNat : Int) - 48)) = a * 10 + ((c.toNat : Int) - 48) := w64 (by omega) (by omega)
      rw [w1, w2] at e
      exact val_le l _ v (by omega) (by omega) (by rw [h10]; omega) e
theorem read_le (s : List UInt8) : 0 ≤ (readR s).1 ∧ (readR s).1 ≤ 1000000000000 := by
  unfold readR
  split
  · simp
  · rename_i hs
    split
    · simp
    · rename_i v hv
      have hl : s.length ≤ 13 := Nat.le_of_not_lt fun h => hs (.inr (.inl h))
      have := val_le s 0 v hl (by omega) (by have := Nat.pow_pos (n := 13 - s.length) (show 0 < 10 by omega); omega) hv
      split
      · simp
      · exact ⟨this, by dsimp only; omega⟩

theorem oneS_w1 {l : List UInt8} {w : Wd} {n : Nat} (h : oneS l = .inl (w, n)) {L a : Int} (ha : 0 ≤ a ∧ a ≤ L) : W1 L ⟨w.kind, w.s, w.n, a⟩ := by
  unfold oneS at h
  split at h
  · cases h
  · rename_i c r
    split at h
    · rename_i hc
      simp only at h
      split at h
      · rename_i hk
        cases h
        refine ⟨by simp, by simp, by simp, fun _ => ?_, by simp, ha⟩
        have hi : isInner c = true := by unfold isInner; simp [hc]
        show (c :: r).takeWhile isInner ≠ []
        rw [List.takeWhile_cons_of_pos hi]; simp
      · split at h
        · rename_i hn
          cases h
          exact ⟨by simp, by simp, fun _ => hn, by simp, by simp, ha⟩
        · cases h
    · split at h
      · simp only at h
        split at h
        · cases h
          exact ⟨fun _ => read_le _, by simp, by simp, by simp, by simp, ha⟩
        · cases h
      · split at h
        · split at h
          · cases h
          · split at h
            · cases h
            · split at h
              · cases h
              · rename_i hu
                cases h
                exact ⟨by simp, fun _ => by dsimp only; omega, by simp, by simp, by simp, ha⟩
        · split at h
          · cases h
            exact ⟨by simp, by simp, by simp, fun _ => by simp, fun _ => by simp, ha⟩
          · split at h
            · cases h
              exact ⟨by simp, by simp, by simp, fun _ => by simp, fun _ => by simp, ha⟩
            · cases h

theorem wordsG_fed (total : Nat) : ∀ (f : Nat) (l : List UInt8) (acc : List (List V)), l.length < f → l.length ≤ total → (wordsG total f l acc).2.1 = 0 →
    ∃ m : List Wx, (wordsG total f l acc).1 = acc ++ wrows m ∧ m ≠ [] ∧ (∀ h, (m.getLast h).kind = 0) ∧ m.length ≤ f ∧ ∀ w ∈ m, W1 total w
  | 0, l, acc, h, _, _ => by omega
  | f + 1, l, acc, h, ht, h0 => by
    unfold wordsG at h0 ⊢
    by_cases hl : l = []
    · rw [if_pos hl]
      refine ⟨[⟨0, [], 0, total⟩], rfl, by simp, fun _ => rfl, by simp, fun w hw => ?_⟩
      have : w = ⟨0, [], 0, total⟩ := by simpa using hw
      rw [this]
      exact ⟨by simp, by simp, by simp, by simp, by simp, by simp⟩
    · rw [if_neg hl] at h0 ⊢
      obtain ⟨c, r, rfl⟩ : ∃ c r, l = c :: r := by
        cases l with
        | nil => exact absurd rfl hl
        | cons c r => exact ⟨c, r, rfl⟩
      cases ho : oneS (c :: r) with
      | inr e =>
        rw [ho] at h0
        exact absurd h0 (oneS_err c r e ho)
      | inl p =>
        obtain ⟨w, n⟩ := p
        obtain ⟨n1, n2⟩ := oneS_len c r w n ho
        rw [ho] at h0
        dsimp only at h0 ⊢
        have h1 := skipG_le false ((c :: r).drop n)
        rw [List.length_drop, List.length_cons] at h1
        rw [List.length_cons] at h ht
        obtain ⟨m, hm, hne, hlast, hml, hw⟩ := wordsG_fed total f (skipG false ((c :: r).drop n)) _ (by omega) (by omega) h0
        refine ⟨⟨w.kind, w.s, w.n, ((total - (c :: r).length : Nat) : Int)⟩ :: m, ?_, by simp, fun hh => ?_, by simp; omega, fun x hx => ?_⟩
        · rw [hm, List.append_assoc]
          rfl
        · rw [List.getLast_cons hne]
          exact hlast hne
        · rcases List.mem_cons.1 hx with rfl | hx
          · exact oneS_w1 ho (by omega)
          · exact hw x hx

theorem wordsG_place (total : Nat) : ∀ (f : Nat) (l : List UInt8) (acc : List (List V)), ((wordsG total f l acc).2.1 = 0 → (wordsG total f l acc).2.2 = 0) ∧ 0 ≤ (wordsG total f l acc).2.2 ∧ (wordsG total f l acc).2.2 ≤ total
  | 0, l, acc => by unfold wordsG; simp
  | f + 1, l, acc => by
    unfold wordsG
    by_cases hl : l = []
    · rw [if_pos hl]; simp
    · rw [if_neg hl]
      obtain ⟨c, r, rfl⟩ : ∃ c r, l = c :: r := by
        cases l with
        | nil => exact absurd rfl hl
        | cons c r => exact ⟨c, r, rfl⟩
      cases ho : oneS (c :: r) with
      | inr e =>
        dsimp only
        exact ⟨fun h => absurd h (oneS_err c r e ho), by omega, by omega⟩
      | inl p =>
        obtain ⟨w, n⟩ := p
        exact wordsG_place total f _ _

theorem words_place (s : List UInt8) : ((wordsS s).2.1 = 0 → (wordsS s).2.2 = 0) ∧ 0 ≤ (wordsS s).2.2 ∧ (wordsS s).2.2 ≤ s.length := by
  unfold wordsS
  split
  · simp
  · exact wordsG_place _ _ _ _

def pst (l : List Wx) : PS := ⟨l, 0, 0, 0, false⟩

/-- The words of a text without a fault. -/
theorem words_fed (s : List UInt8) (h0 : (wordsS s).2.1 = 0) : ∃ l : List Wx, wordsS s = (wrows l, 0, 0) ∧ (pst l).good ∧ (pst l).fed s.length := by
  have hp := (words_place s).1 h0
  have hh : ∃ l : List Wx, (wordsS s).1 = wrows l ∧ (pst l).good ∧ (pst l).fed s.length := by
    unfold wordsS at h0 ⊢
    by_cases h : 4096 < s.length
    · rw [if_pos h] at h0
      exact absurd (show (14 : Int) = 0 from h0) (by omega)
    · rw [if_neg h] at h0 ⊢
      have h1 := skipG_le false s
      obtain ⟨m, hm, hne, hlast, hml, hw⟩ := wordsG_fed s.length (s.length + 1) (skipG false s) [] (by omega) h1 h0
      exact ⟨m, by rw [hm]; rfl, ⟨hne, hlast, fun hc => absurd ⟨rfl, rfl⟩ hc, by show m.length ≤ 4097; omega⟩, ⟨hw, by simp [pst], fun _ => rfl⟩⟩
  obtain ⟨l, h1, h2, h3⟩ := hh
  exact ⟨l, by rw [← h1]; exact Prod.ext rfl (Prod.ext h0 hp), h2, h3⟩

def zp : Pg := ⟨[], [], [], []⟩
/-- What is told: nothing beside a fault. -/
def ansP (x : Pg × PS) : Pg := if x.2.clean then x.1 else zp
theorem Program_eq {s : List UInt8} (hs : s.length ≤ 1000000) {l : List Wx} (hw : wordsS s = (wrows l, 0, 0)) (hg : (pst l).good) :
    eval tbl noExt n_parse_Program [.str s] [] = some (.tup [.agg (ansP (programP 4097 (pst l))).cells, .agg [iw (programP 4097 (pst l)).2.fe, iw (programP 4097 (pst l)).2.fa]], []) := by
  have hW := fun H => Words_eq s hs H
  simp only [hw, wordsV] at hW
  have hP := program_eq 4097 (by omega) (HB := [some [V.own 2 [], .own 7 [], .own 7 [], .own 5 []], some [iw 0, iw 0], some [iw 0, iw 0], none]) (i := 3) (by simp) hg hg.len (by simp [pst]) (by have := hg.len; simp only [pst] at this ⊢; omega) []
  obtain ⟨x, r, hx⟩ : ∃ x r, programP 4097 (pst l) = (x, r) := ⟨_, _, rfl⟩
  rw [hx] at hP ⊢
  have hz : zp.cells = [.sl 2 [], .sl 7 [], .sl 7 [], .sl 5 []] := rfl
  have hxc : x.cells = [.sl 2 x.pcells, .sl 7 (Sm.rows x.main), .sl 7 (Sm.rows x.recover), .sl 5 x.ocells] := rfl
  simp [Hp, PS.cells, PS.lv, pst] at hP
  rw [hxc] at hP
  have hlv : (if r.o = true then V.own 4 (wrows r.left) else V.sl 4 (wrows r.left)) = r.lv := rfl
  rw [hlv] at hP
  unfold ansP
  rw [eval_M rfl rfl t_parse_Program rfl]
  by_cases hc : r.clean
  · rw [if_pos hc]
    obtain ⟨c1, c2⟩ := hc
    rw [c1, c2] at hP
    simp [c_parse_Program, hW, eqCells, V.apart, storeOf, lt_lex_Words, lt_pparse_parser_program, hP, hxc, c1, c2]
  · rw [if_neg hc]
    have hc' : (decide (r.fe = 0) && decide (r.fa = 0)) = false := by
      rw [Bool.eq_false_iff]; intro h
      simp only [Bool.and_eq_true, decide_eq_true_eq] at h
      exact hc h
    simp [c_parse_Program, hW, eqCells, V.apart, storeOf, lt_lex_Words, lt_pparse_parser_program, hP, hxc, hz, hc']

end Go.AM.Spec

namespace Go.AM.Spec
set_option linter.unusedVariables false
set_option linter.unusedSimpArgs false
set_option maxRecDepth 10000
open PS

theorem whole_sz {t : List UInt8} {n : Nat} {s : PS} (hs : s.good) (hc : (wholeP t n s).2.clean) : (wholeP t n s).1.size + 2 * (wholeP t n s).2.left.length ≤ 2 * s.left.length + 1 := by
  obtain ⟨h1, h2, _⟩ := whole_clean hc
  rw [h1]
  exact expr_small n s hs

theorem exprsG_sz {n : Nat} : ∀ (k : Nat) (l : List Ex) (s : PS), s.good → (exprsG n k l s).2.clean → Ex.sizes (exprsG n k l s).1 + 2 * (exprsG n k l s).2.left.length ≤ Ex.sizes l + 2 * s.left.length
  | 0, l, s, hs, hc => Nat.le_refl _
  | k + 1, l, s, hs, hc => by
    unfold exprsG at hc ⊢
    dsimp only at hc ⊢
    generalize (if k = 0 then gSe else gCo) = e at hc ⊢
    have g1 := wholeP_to e n s hs
    have g2 := wants_to g1.good e
    have hc2 := (exprsG_to n k (l ++ [(wholeP e n s).1]) _ g2.good).clean hc
    obtain ⟨hc1, hw⟩ := wants_clean g1.good hc2
    have h1 := whole_sz hs hc1
    have h2 := exprsG_sz k (l ++ [(wholeP e n s).1]) _ g2.good hc
    rw [Ex.sizes_append] at h2
    simp only [Ex.sizes] at h2
    omega
theorem exprsP_sz {n : Nat} {op : Int} {s : PS} (hs : s.good) (hc : (exprsP n op s).2.clean) : Ex.sizes (exprsP n op s).1 + 2 * (exprsP n op s).2.left.length ≤ 2 * s.left.length := by
  unfold exprsP at hc ⊢
  by_cases h0 : nEx op = 0
  · rw [if_pos h0] at hc ⊢
    have := (wants_to hs gSe).len
    simp only [Ex.sizes]; omega
  · rw [if_neg h0] at hc ⊢
    have := exprsG_sz _ [] s hs hc
    simp only [Ex.sizes] at this
    omega

def SzS (m : Nat) (stm : SF) : Prop := ∀ (d : Int) (s : PS), s.good → s.left.length ≤ m → (stm d s).2.clean → (stm d s).1.size + 2 * (stm d s).2.left.length ≤ 2 * s.left.length

section
variable {m : Nat} {stm : SF} (hto : ∀ d, Goes' (stm d)) (hS : SzS m stm)
include hto hS

theorem blockG_sz (d : Int) : ∀ (k : Nat) (l : List Sm) (s : PS), s.good → s.left.length ≤ m → (blockG (stm d) k l s).2.clean → Sm.sizes (blockG (stm d) k l s).1 + 2 * (blockG (stm d) k l s).2.left.length ≤ Sm.sizes l + 2 * s.left.length
  | 0, l, s, hs, hl, hc => Nat.le_refl _
  | k + 1, l, s, hs, hl, hc => by
    unfold blockG at hc ⊢
    by_cases h0 : ¬ s.clean
    · rw [if_pos h0] at hc; exact absurd hc h0
    rw [if_neg h0] at hc ⊢
    obtain ⟨o, r, hr⟩ : ∃ o r, s.takes [gRb] = (o, r) := ⟨_, _, rfl⟩
    rw [hr] at hc ⊢
    cases o with
    | some t =>
      have := (takes_some hs hr).2.2.1.len
      dsimp only
      omega
    | none =>
      obtain ⟨rfl, _⟩ := takes_none hr
      dsimp only at hc ⊢
      have g1 := hto d r hs
      have hc1 := (blockG_to (hto d) k _ _ g1.good).clean hc
      have S := hS d r hs hl hc1
      have h2 := blockG_sz d k (l ++ [(stm d r).1]) _ g1.good (Nat.le_trans g1.len hl) hc
      rw [sizes_append] at h2
      simp only [Sm.sizes] at h2
      omega
theorem blockP_sz (d : Int) {s : PS} (hs : s.good) (hl : s.left.length ≤ m) (hc : (blockP stm m d s).2.clean) : Sm.sizes (blockP stm m d s).1 + 2 * (blockP stm m d s).2.left.length + 2 ≤ 2 * s.left.length := by
  have g1 := wants_to hs gLb
  have hc1 : (s.wants gLb).clean := (blockG_to (hto d) m [] _ g1.good).clean hc
  have hw := (wants_clean hs hc1).2
  have h2 := blockG_sz hto hS d m [] _ g1.good (Nat.le_trans g1.len hl) hc
  have e : blockP stm m d s = blockG (stm d) m [] (s.wants gLb) := rfl
  rw [e]
  simp only [Sm.sizes] at h2
  omega
theorem txnG_sz (d : Int) : ∀ (k : Nat) (l : List Sm) (s : PS), s.good → s.left.length ≤ m → (txnG (stm d) k l s).2.clean → Sm.sizes (txnG (stm d) k l s).1 + 2 * (txnG (stm d) k l s).2.left.length ≤ Sm.sizes l + 2 * s.left.length
  | 0, l, s, hs, hl, hc => by
    unfold txnG at hc ⊢
    by_cases h0 : (s.sees [kWrite]).isSome
    · rw [if_pos h0] at hc; exact absurd hc (fail_dirty (by omega) _)
    · rw [if_neg h0]; exact Nat.le_refl _
  | k + 1, l, s, hs, hl, hc => by
    unfold txnG at hc ⊢
    by_cases h0 : (s.sees [kWrite]).isSome
    · rw [if_pos h0] at hc ⊢
      have g1 := hto d s hs
      have hc1 := (txnG_to (hto d) k _ _ g1.good).clean hc
      have S := hS d s hs hl hc1
      have h2 := txnG_sz d k (l ++ [(stm d s).1]) _ g1.good (Nat.le_trans g1.len hl) hc
      rw [sizes_append] at h2
      simp only [Sm.sizes] at h2
      omega
    · rw [if_neg h0]; exact Nat.le_refl _

theorem loop_sz {d : Int} {s : PS} (hs : s.good) (hl : s.left.length ≤ m) (hc : (loopP stm m d s).2.clean) : (loopP stm m d s).1.size + 2 * (loopP stm m d s).2.left.length ≤ 2 * s.left.length + 2 := by
  have g1 := of_to hs 2
  have h2 : s.to (if 16 < (s.of 2).1.n then (s.of 2).2.fail 14 (s.of 2).1 else (s.of 2).2) := by
    split
    · exact g1.trans (fail_to g1.good (by omega) _)
    · exact g1
  unfold loopP at hc ⊢
  dsimp only at hc ⊢
  have := blockP_sz hto hS (d + 1) h2.good (Nat.le_trans h2.len hl) hc
  have l2 := h2.len
  simp only [Sm.size, Ex.sizes, Sm.sizes]
  omega
theorem choice_sz {d : Int} {s : PS} (hs : s.good) (hl : s.left.length ≤ m) (hc : (choiceP stm m d s).2.clean) : (choiceP stm m d s).1.size + 2 * (choiceP stm m d s).2.left.length ≤ 2 * s.left.length + 2 := by
  have g1 := wholeP_to gLb m s hs
  have g2 := blockP_to (hto (d + 1)) m _ g1.good
  unfold choiceP at hc ⊢
  dsimp only at hc ⊢
  have B := fun h => blockP_sz hto hS (d + 1) g1.good (Nat.le_trans g1.len hl) h
  have l1 := g1.len
  have l2 := g2.len
  obtain ⟨o, r, hr⟩ : ∃ o r, (blockP stm m (d + 1) (wholeP gLb m s).2).2.takes [kElse] = (o, r) := ⟨_, _, rfl⟩
  rw [hr] at hc ⊢
  cases o with
  | none =>
    obtain ⟨hrr, _⟩ := takes_none hr
    dsimp only at hc ⊢
    rw [hrr] at hc ⊢
    have b := B hc
    have w := whole_sz hs (g2.clean hc)
    simp only [Sm.size, Ex.sizes, Sm.sizes]
    omega
  | some t =>
    dsimp only at hc ⊢
    obtain ⟨_, _, gt, hln, _, hcb⟩ := takes_some g2.good hr
    have b := B hcb
    have w := whole_sz hs (g2.clean hcb)
    have c := blockP_sz hto hS (d + 1) gt.good (by omega) hc
    simp only [Sm.size, Ex.sizes, Sm.sizes]
    omega
theorem txn_sz {d : Int} {s : PS} (hs : s.good) (hl : s.left.length ≤ m) (hc : (txnP stm m d s).2.clean) : (txnP stm m d s).1.size + 2 * (txnP stm m d s).2.left.length ≤ 2 * s.left.length + 2 := by
  unfold txnP at hc ⊢
  dsimp only at hc ⊢
  have g1 := wholeP_to gLb m s hs
  have g2 := wants_to g1.good gLb
  have g3 := txnG_to (hto (d + 1)) 8 [] _ g2.good
  obtain ⟨T, hT⟩ : ∃ T, T = txnG (stm (d + 1)) 8 [] ((wholeP gLb m s).2.wants gLb) := ⟨_, rfl⟩
  rw [← hT] at hc g3 ⊢
  have g4 := wants_to g3.good gRb
  have g5 := takes_to g4.good [kCommit]
  have c5 := (wants_clean g5.good hc).1
  have c3 := (wants_clean g3.good (g5.clean c5)).1
  have c2 := g3.clean c3
  have c1 := (wants_clean g1.good c2).1
  have w6 := (wants_clean g5.good hc).2
  have w4 := (wants_clean g3.good (g5.clean c5)).2
  have w2 := (wants_clean g1.good c2).2
  have l5 := g5.len
  have l1 := g1.len
  have w := whole_sz hs c1
  have t := txnG_sz hto hS (d + 1) 8 [] _ g2.good (by omega) (by rw [← hT]; exact c3)
  rw [← hT] at t
  simp only [Sm.sizes] at t
  simp only [Sm.size, Ex.sizes, Sm.sizes]
  omega
omit hto hS in
theorem let_sz {s : PS} (hs : s.good) (hc : (letP m s).2.clean) : (letP m s).1.size + 2 * (letP m s).2.left.length ≤ 2 * s.left.length + 2 := by
  have g1 := of_to hs 1
  have g2 := wants_to g1.good [61]
  unfold letP at hc ⊢
  dsimp only at hc ⊢
  have h := exprsP_sz (op := 12) g2.good hc
  have l1 := g1.len
  have l2 := g2.len
  simp only [Sm.size, Sm.sizes]
  omega
omit hto hS in
theorem call_sz {s : PS} (hs : s.good) (hc : (callP m s).2.clean) : (callP m s).1.size + 2 * (callP m s).2.left.length ≤ 2 * s.left.length + 2 := by
  have g1 := of_to hs 1
  unfold callP at hc ⊢
  dsimp only at hc ⊢
  have h := exprsP_sz (op := 15) g1.good hc
  have l1 := g1.len
  simp only [Sm.size, Sm.sizes]
  omega

theorem stmtB_sz : SzS (m + 1) (stmtB stm m) := fun d s hs hl hc => by
  unfold stmtB at hc ⊢
  dsimp only at hc ⊢
  by_cases hno : (simpleP s.head).isNone ∧ (s.sees [kLet, kCall, kIf, kRepeat, kTxn]).isNone
  · rw [if_pos hno] at hc; exact absurd hc (fail_dirty (by omega) _)
  rw [if_neg hno] at hc ⊢
  by_cases hlim : 256 < s.st + 1 ∨ 8 < d
  · rw [if_pos hlim] at hc; exact absurd hc (fail_dirty (by omega) _)
  rw [if_neg hlim] at hc ⊢
  have hk : s.head.kind ≠ 0 := by
    cases ho : s.sees [kLet, kCall, kIf, kRepeat, kTxn] with
    | some t => exact (sees_kind ho).1
    | none =>
      refine simple_kind ?_
      cases hq : (simpleP s.head).isNone with
      | false => rfl
      | true => exact absurd ⟨hq, by rw [ho]; rfl⟩ hno
  have h2 := hs.two hk
  have h1 := st_skip hs hk
  have e : PS.skip ⟨s.left, s.fe, s.fa, s.st + 1, s.o⟩ = ⟨s.left.tail, s.fe, s.fa, s.st + 1, false⟩ := skip_two h2
  have hlr : (PS.skip ⟨s.left, s.fe, s.fa, s.st + 1, s.o⟩).left.length + 1 = s.left.length := by rw [e]; simp only [List.length_tail]; omega
  generalize PS.skip ⟨s.left, s.fe, s.fa, s.st + 1, s.o⟩ = r at hc h1 hlr ⊢
  have hg := h1.good
  cases ho : s.sees [kLet, kCall, kIf, kRepeat, kTxn] with
  | none =>
    rw [ho] at hc
    dsimp only at hc ⊢
    have h := exprsP_sz hg hc
    simp only [Sm.size, Sm.sizes]
    omega
  | some t =>
    rw [ho] at hc
    dsimp only at hc ⊢
    by_cases k1 : t = kLet
    · rw [if_pos k1] at hc ⊢
      have := let_sz hg hc; omega
    rw [if_neg k1] at hc ⊢
    by_cases k2 : t = kCall
    · rw [if_pos k2] at hc ⊢
      have := call_sz hg hc; omega
    rw [if_neg k2] at hc ⊢
    by_cases k3 : t = kIf
    · rw [if_pos k3] at hc ⊢
      have := choice_sz hto hS hg (by omega) hc; omega
    rw [if_neg k3] at hc ⊢
    by_cases k4 : t = kRepeat
    · rw [if_pos k4] at hc ⊢
      have := loop_sz hto hS hg (by omega) hc; omega
    rw [if_neg k4] at hc ⊢
    have := txn_sz hto hS hg (by omega) hc; omega
end

theorem stmtP_sz : ∀ n, SzS n (stmtP n)
  | 0 => fun d s hs hl hc => by have := hs.pos; omega
  | n + 1 => stmtB_sz (stmtP_to n) (stmtP_sz n)

theorem procsG_sz {n : Nat} : ∀ (k : Nat) (l : List (List UInt8 × List Sm)) (s : PS), s.good → s.left.length ≤ n → (procsG (stmtP n) n k l s).2.clean →
    ((procsG (stmtP n) n k l s).1.map fun x => 1 + Sm.sizes x.2).sum + 2 * (procsG (stmtP n) n k l s).2.left.length ≤ (l.map fun x => 1 + Sm.sizes x.2).sum + 2 * s.left.length
  | 0, l, s, hs, hl, hc => Nat.le_refl _
  | k + 1, l, s, hs, hl, hc => by
    unfold procsG at hc ⊢
    have gn := namedP_to kProc l.length s hs
    obtain ⟨o, r, ho⟩ : ∃ o r, namedP kProc l.length s = (o, r) := ⟨_, _, rfl⟩
    rw [ho] at hc gn ⊢
    dsimp only at gn
    cases o with
    | none => have := gn.len; dsimp only; omega
    | some nm =>
      dsimp only at hc ⊢
      have hlr := named_some hs ho
      have gb := blockP_to (stmtP_to n 1) n r gn.good
      have cb := (procsG_to (len := n) (stmtP_to n) k _ _ gb.good).clean hc
      have b := blockP_sz (stmtP_to n) (stmtP_sz n) 1 gn.good (by omega) cb
      have h2 := procsG_sz k (l ++ [(nm, (blockP (stmtP n) n 1 r).1)]) _ gb.good (by have := gb.len; omega) hc
      simp only [List.map_append, List.map_cons, List.map_nil, List.sum_append, List.sum_cons, List.sum_nil] at h2
      omega
theorem oraclesG_sz {n : Nat} : ∀ (k : Nat) (l : List (List UInt8 × Ex)) (s : PS), s.good → s.left.length ≤ n → (oraclesG n k l s).2.clean →
    ((oraclesG n k l s).1.map fun x => 1 + x.2.size).sum + 2 * (oraclesG n k l s).2.left.length ≤ (l.map fun x => 1 + x.2.size).sum + 2 * s.left.length
  | 0, l, s, hs, hl, hc => Nat.le_refl _
  | k + 1, l, s, hs, hl, hc => by
    unfold oraclesG at hc ⊢
    have gn := namedP_to kOracle l.length s hs
    obtain ⟨o, r, ho⟩ : ∃ o r, namedP kOracle l.length s = (o, r) := ⟨_, _, rfl⟩
    rw [ho] at hc gn ⊢
    dsimp only at gn
    cases o with
    | none => have := gn.len; dsimp only; omega
    | some nm =>
      dsimp only at hc ⊢
      have hlr := named_some hs ho
      have g1 := wants_to gn.good gCl
      have g2 := wholeP_to gSe n _ g1.good
      have g3 := wants_to g2.good gSe
      have c3 := (oraclesG_to (len := n) k _ _ g3.good).clean hc
      obtain ⟨c2, w3⟩ := wants_clean g2.good c3
      have b := whole_sz g1.good c2
      have l1 := g1.len
      have l2 := g2.len
      have l3 := g3.len
      have h2 := oraclesG_sz k (l ++ [(nm, (wholeP gSe n (r.wants gCl)).1)]) _ g3.good (by omega) hc
      simp only [List.map_append, List.map_cons, List.map_nil, List.sum_append, List.sum_cons, List.sum_nil] at h2
      omega

theorem psz {n : Nat} {s : PS} (hs : s.good) (hl : s.left.length ≤ n) (hc : (programP n s).2.clean) : (programP n s).1.size ≤ 2 * s.left.length := by
  unfold programP at hc ⊢
  dsimp only at hc ⊢
  have ga := procsG_to (len := n) (stmtP_to n) n [] s hs
  have PA := fun hh => procsG_sz n [] s hs hl hh
  obtain ⟨A, s1, hA⟩ : ∃ A s1, procsG (stmtP n) n n [] s = (A, s1) := ⟨_, _, rfl⟩
  simp only [hA] at hc ga PA ⊢
  have g1 := wants_to ga.good kMain
  have gB := blockP_to (stmtP_to n 1) n _ g1.good
  have l0 := ga.len
  have l1 := g1.len
  have PB := fun hh => blockP_sz (stmtP_to n) (stmtP_sz n) 1 g1.good (by omega) hh
  obtain ⟨B, s2, hB⟩ : ∃ B s2, blockP (stmtP n) n 1 (s1.wants kMain) = (B, s2) := ⟨_, _, rfl⟩
  simp only [hB] at hc gB PB ⊢
  have l2 := gB.len
  have gC := recP_to n s2 gB.good
  have PC : (recP n s2).2.clean → Sm.sizes (recP n s2).1 + 2 * (recP n s2).2.left.length ≤ 2 * s2.left.length := by
    intro hh
    unfold recP at hh ⊢
    obtain ⟨o, r, ho⟩ : ∃ o r, s2.takes [kRecover] = (o, r) := ⟨_, _, rfl⟩
    rw [ho] at hh ⊢
    cases o with
    | none =>
      obtain ⟨rfl, _⟩ := takes_none ho
      simp [Sm.sizes]
    | some t =>
      obtain ⟨_, _, gt, hln, _, _⟩ := takes_some gB.good ho
      have := blockP_sz (stmtP_to n) (stmtP_sz n) 1 gt.good (by omega) hh
      dsimp only
      omega
  obtain ⟨C, s3, hC⟩ : ∃ C s3, recP n s2 = (C, s3) := ⟨_, _, rfl⟩
  simp only [hC] at hc gC PC ⊢
  have l3 := gC.len
  have gO := oraclesG_to (len := n) n [] s3 gC.good
  have PO := fun hh => oraclesG_sz (n := n) n [] s3 gC.good (by omega) hh
  obtain ⟨O, s4, hO⟩ : ∃ O s4, oraclesG n n [] s3 = (O, s4) := ⟨_, _, rfl⟩
  simp only [hO] at hc gO PO ⊢
  have c4 := (of_clean gO.good hc).1
  have c3 := gO.clean c4
  have c2 := gC.clean c3
  have c1 := gB.clean c2
  have c0 := (wants_clean ga.good c1).1
  have a := PA c0
  have b := PB c2
  have c := PC c3
  have o := PO c4
  simp only [List.map_nil, List.sum_nil] at a o
  simp only [Pg.size, Pg.psize, Pg.osize]
  omega

end Go.AM.Spec
