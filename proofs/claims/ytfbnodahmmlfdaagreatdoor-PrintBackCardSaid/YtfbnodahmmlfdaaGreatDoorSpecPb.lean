/-
 The parts of this proof that speak of the functions one by one.
-/
import Derived.Test.YtfbnodahmmlfdaaGreatDoorSpecPa
import Derived.Test.YtfbnodahmmlfdaaGreatDoorSpecWd
namespace Go.AM.Spec
set_option linter.unusedVariables false
set_option linter.unusedSimpArgs false
set_option maxHeartbeats 4000000
set_option maxRecDepth 10000
open PS
def SpecS (stm : SF) (len : Nat) : Prop := ∀ (HB : Heap) (i : Nat), i < HB.length → ∀ s : PS, s.good → s.left.length ≤ len → 0 ≤ s.st → s.st + (s.left.length : Int) ≤ 5000 → ∀ d : Int, 0 ≤ d → d ≤ 9 → ∀ r, eval tbl noExt n_pp_stmt [.ptr i 0, .int .i64 d] (Hp HB i s ++ r) = some (.agg (stm d s).1.cells, Hp HB i (stm d s).2 ++ r)
def Less (stm : SF) : Prop := ∀ (d : Int) (s : PS), s.good → (stm d s).2.clean → (stm d s).2.left.length < s.left.length
theorem Sm.cells_mk (op : Int) (s : List UInt8) (n : Int) (e : List Ex) (b c : List Sm) (k : Bool) : (Sm.mk op s n e b c k).cells = [.int .i64 op, .str s, .int .i64 n, .sl 4 (Ex.rows e), .sl 7 (Sm.rows b), .sl 7 (Sm.rows c), .bool k] := rfl
theorem Sm.rows_snoc (l : List Sm) (e : Sm) : Sm.rows (l ++ [e]) = Sm.rows l ++ [e.cells] := by simp [Sm.rows_eq]
theorem Sm.rows_ln (l : List Sm) : (Sm.rows l).length = l.length := by simp [Sm.rows_eq]
theorem block_loop {stm : SF} {len : Nat} (hto : ∀ d, Goes' (stm d)) (hst : SpecS stm len) (hless : Less stm) {HB : Heap} {i : Nat} (hi : i < HB.length) (r : Heap) (d : Int) (hd0 : 0 ≤ d) (hd9 : d ≤ 9) :
  ∀ (k : Nat) (l : List Sm) (s : PS) (φ : Fr), l.length + k ≤ 10000 → s.good → s.left.length ≤ len → (s.clean → s.left.length ≤ k) → 0 ≤ s.st → s.st + (s.left.length : Int) ≤ 5000 → Fr.get φ 0 = .ptr i 0 → Fr.get φ 1 = .int .i64 d → Fr.get φ 5 = .own 7 (Sm.rows l) →
   M (eval tbl noExt) [.code l_pp_block_0, .blk 0, .code r_pp_block_0, .fin [.t 4] (HB.length + r.length)] φ (Hp HB i s ++ r) = some (.own 7 (Sm.rows (blockG (stm d) k l s).1), Hp HB i (blockG (stm d) k l s).2 ++ r) := by
 intro k
 induction k with
 | zero =>
  intro l s φ hk hs hl hc h0 hb g0 g1 g5
  have hc' : ¬ s.clean := fun h => by have := hc h; have := hs.pos; omega
  have hc2 : (decide (s.fe = 0) && decide (s.fa = 0)) = false := by
   rw [Bool.eq_false_iff]; intro h
   simp only [Bool.and_eq_true, decide_eq_true_eq] at h
   exact hc' h
  have gI := fun r => gHp hi s r
  unfold PS.cells at gI
  unfold blockG
  rw [l_pp_block_0, M_loop]
  simp [b_pp_block_0, r_pp_block_0, g0, g1, g5, gI, eqCells, hc2, Hp_len]
 | succ k ih =>
  intro l s φ hk hs hl hc h0 hb g0 g1 g5
  have gI := fun r => gHp hi s r
  unfold PS.cells at gI
  unfold blockG
  rw [l_pp_block_0, M_loop, ← l_pp_block_0]
  by_cases hcl : s.clean
  ·rw [if_neg (by simpa using hcl)]
   have hlk := hc hcl
   have ht := fun r => takes_eq hi hs.ne [gRb] (by simp) (.inr rfl) r
   obtain ⟨o, s', ho⟩ : ∃ o s', s.takes [gRb] = (o, s') := ⟨_, _, rfl⟩
   simp only [ho, seesV, List.map_cons, List.map_nil, tx] at ht ⊢
   have c1 := hcl.1
   have c2 := hcl.2
   rw [c1, c2] at gI
   cases o with
   | some t =>
    simp [b_pp_block_0, r_pp_block_0, g0, g1, g5, gI, eqCells, ht, Hp_len]
   | none =>
    obtain ⟨rfl, _⟩ := takes_none ho
    have hS := fun r => hst HB i hi s' hs hl h0 hb d hd0 hd9 r
    have gto := hto d s' hs
    have hlt := hless d s' hs
    dsimp only
    obtain ⟨x, s2, hx⟩ : ∃ x s2, stm d s' = (x, s2) := ⟨_, _, rfl⟩
    simp only [hx] at hS gto hlt ⊢
    have hnext := ih (l ++ [x]) s2
    rw [Sm.rows_snoc] at hnext
    have hrl := Sm.rows_ln l
    have hcap : 2 * (l.length + 1) * 112 ≤ 281474976710656 := by omega
    have hcnt := gto.cnt
    obtain ⟨x1, x2, x3, x4, x5, x6, x7⟩ := x
    simp only [Sm.cells_mk] at hS hnext
    simp [-arith, b_pp_block_0, g0, g1, g5, gI, eqCells, ht, hS, hrl, hcap, Hp_len]
    refine hnext _ (by simp; omega) gto.good (Nat.le_trans gto.len hl) (fun h => by have := hlt h; omega) (by omega) (by omega) ?_ ?_ ?_ <;> simp [g0, g1]
  ·rw [if_pos hcl]
   have hc2 : (decide (s.fe = 0) && decide (s.fa = 0)) = false := by
    rw [Bool.eq_false_iff]; intro h
    simp only [Bool.and_eq_true, decide_eq_true_eq] at h
    exact hcl h
   simp [b_pp_block_0, r_pp_block_0, g0, g1, g5, gI, eqCells, hc2, Hp_len]
theorem pblock_eq {stm : SF} {len : Nat} (hlen : len ≤ 5000) (hto : ∀ d, Goes' (stm d)) (hst : SpecS stm len) (hless : Less stm) {HB : Heap} {i : Nat} (hi : i < HB.length) {s : PS} (hs : s.good) (hl : s.left.length ≤ len) (h0 : 0 ≤ s.st) (hb : s.st + (s.left.length : Int) ≤ 5000) (d : Int) (hd0 : 0 ≤ d) (hd9 : d ≤ 9) (r : Heap) :
  eval tbl noExt n_pp_block [.ptr i 0, .int .i64 d] (Hp HB i s ++ r) = some (.own 7 (Sm.rows (blockP stm len d s).1), Hp HB i (blockP stm len d s).2 ++ r) := by
 have h1 := fun r => wants_eq hi hs.ne gLb r
 have gto := wants_to hs gLb
 have hcnt := gto.cnt
 have hnext := block_loop hto hst hless hi r d hd0 hd9 len [] (s.wants gLb)
 unfold blockP
 rw [eval_M rfl rfl t_pp_block rfl]
 simp [c_pp_block, h1, Hp_len]
 refine hnext _ (by simp; omega) gto.good (Nat.le_trans gto.len hl) (fun _ => Nat.le_trans gto.len hl) (by omega) (by omega) ?_ ?_ ?_ <;> simp [Sm.rows]
theorem ar_suci (d : Int) (h0 : 0 ≤ d) (h1 : d ≤ 100000) : arith .add .i64 d 1 = some (.int .i64 (d + 1)) := by
 show some (V.int .i64 _) = _
 rw [w64 (by omega) (by omega)]
section
variable {stm : SF} {len : Nat} {HB : Heap} {i : Nat} {s : PS} {d : Int}
theorem loop17_eq (hlen : len ≤ 5000) (hto : ∀ d, Goes' (stm d)) (hst : SpecS stm len) (hless : Less stm) (hi : i < HB.length) (hs : s.good) (hl : s.left.length ≤ len) (h0 : 0 ≤ s.st) (hb : s.st + (s.left.length : Int) ≤ 5000) (hd0 : 0 ≤ d) (hd9 : d ≤ 8) (r : Heap) :
  eval tbl noExt n_pp_loop [.ptr i 0, .int .i64 d] (Hp HB i s ++ r) = some (.agg (loopP stm len d s).1.cells, Hp HB i (loopP stm len d s).2 ++ r) := by
 have h1 := fun r => of_eq hi hs.ne 2 r
 have g1 := of_to hs 2
 have A6 := ar_suci d hd0 (by omega)
 unfold loopP
 dsimp only
 obtain ⟨w, s1, hw⟩ : ∃ w s1, s.of 2 = (w, s1) := ⟨_, _, rfl⟩
 simp only [hw] at h1 g1 ⊢
 have hwc : w.cells = [iw w.kind, .str w.s, iw w.n, iw w.a] := rfl
 have h2 := fun r => pfail_eq hi s1 14 w r
 rw [hwc] at h1 h2
 have hr0 : Ex.rows [] = [] := rfl
 have hm0 : Sm.rows [] = [] := rfl
 rw [eval_M rfl rfl t_pp_loop rfl]
 by_cases h16 : 16 < w.n
 ·rw [if_pos h16]
  have g2 := g1.trans (fail_to g1.good (show (14 : Int) ≠ 0 by omega) w)
  have hcnt := g2.cnt
  have h3 := fun r => pblock_eq hlen hto hst hless hi g2.good (Nat.le_trans g2.len hl) (by omega) (by omega) (d + 1) (by omega) (by omega) r
  simp [-arith, c_pp_loop, h1, h2, h3, h16, A6, hr0, hm0, Sm.cells_mk, Hp_len]
 ·rw [if_neg h16]
  have hcnt := g1.cnt
  have h3 := fun r => pblock_eq hlen hto hst hless hi g1.good (Nat.le_trans g1.len hl) (by omega) (by omega) (d + 1) (by omega) (by omega) r
  simp [-arith, c_pp_loop, h1, h2, h3, h16, A6, hr0, hm0, Sm.cells_mk, Hp_len]
theorem choice_eq (hlen : len ≤ 5000) (hto : ∀ d, Goes' (stm d)) (hst : SpecS stm len) (hless : Less stm) (hi : i < HB.length) (hs : s.good) (hl : s.left.length ≤ len) (h0 : 0 ≤ s.st) (hb : s.st + (s.left.length : Int) ≤ 5000) (hd0 : 0 ≤ d) (hd9 : d ≤ 8) (r : Heap) :
  eval tbl noExt n_pp_choice [.ptr i 0, .int .i64 d] (Hp HB i s ++ r) = some (.agg (choiceP stm len d s).1.cells, Hp HB i (choiceP stm len d s).2 ++ r) := by
 have h1 := fun r => pwhole_eq gLb len hi hs hl r
 have g1 := wholeP_to gLb len s hs
 have A6 := ar_suci d hd0 (by omega)
 unfold choiceP
 dsimp only
 obtain ⟨x, s1, hx⟩ : ∃ x s1, wholeP gLb len s = (x, s1) := ⟨_, _, rfl⟩
 simp only [hx] at h1 g1 ⊢
 have hc1 := g1.cnt
 have h2 := fun r => pblock_eq hlen hto hst hless hi g1.good (Nat.le_trans g1.len hl) (by omega) (by omega) (d + 1) (by omega) (by omega) r
 have g2 := g1.trans (blockP_to (hto (d + 1)) len s1 g1.good)
 obtain ⟨b, s2, hb2⟩ : ∃ b s2, blockP stm len (d + 1) s1 = (b, s2) := ⟨_, _, rfl⟩
 simp only [hb2] at h2 g2 ⊢
 have hc2 := g2.cnt
 have h3 := fun r => takes_eq hi g2.good.ne [kElse] (by simp) (.inr rfl) r
 obtain ⟨o, s3, ho⟩ : ∃ o s3, s2.takes [kElse] = (o, s3) := ⟨_, _, rfl⟩
 simp only [ho, seesV, List.map_cons, List.map_nil, tx] at h3 ⊢
 have hm0 : Sm.rows [] = [] := rfl
 obtain ⟨xo, xn, xt, xl⟩ := x
 have hr1 : Ex.rows [Ex.mk xo xn xt xl] = [(Ex.mk xo xn xt xl).cells] := rfl
 simp only [Ex.cells_mk] at h1 hr1
 rw [eval_M rfl rfl t_pp_choice rfl]
 cases o with
 | none =>
  simp [-arith, c_pp_choice, h1, h2, h3, A6, hr1, hm0, Sm.cells_mk, Hp_len]
 | some t =>
  have g3 := g2.trans (takes_some g2.good ho).2.2.1
  have hc3 := g3.cnt
  have h4 := fun r => pblock_eq hlen hto hst hless hi g3.good (Nat.le_trans g3.len hl) (by omega) (by omega) (d + 1) (by omega) (by omega) r
  simp [-arith, c_pp_choice, h1, h2, h3, h4, A6, hr1, hm0, Sm.cells_mk, Hp_len]
end
def bodyV (l : List Sm) : V := if l = [] then .nils 7 else .own 7 (Sm.rows l)
def txnEnd (x : Ex) (b : List Sm) (s : PS) : Sm × PS :=
 let c := (s.wants gRb).takes [kCommit]
 (.mk 16 [] 0 [x] b [] c.1.isSome, c.2.wants gSe)
section
variable {HB : Heap} {i : Nat}
theorem txn_tail (hi : i < HB.length) (r : Heap) (x : Ex) (l : List Sm) {s : PS} (hs : s.good) (φ : Fr) (z : Option (List V)) (hz : z = some [.int .i64 0, .str [], .int .i64 0, .own 4 [], .own 7 [], .own 7 [], .bool false]) (g0 : Fr.get φ 0 = .ptr i 0) (g4 : Fr.get φ 4 = .ptr (HB.length + r.length) 0) (g5 : Fr.get φ 5 = .ptr (HB.length + (r.length + 1)) 0) :
  M (eval tbl noExt) [.code r_pp_txn_0, .fin [.cell 4 (some 7)] (HB.length + r.length)] φ (Hp HB i s ++ (r ++ [z, some [.int .i64 16, .str [], .int .i64 0, .sl 4 [x.cells], bodyV l, .sl 7 [], .bool false]])) = some (.agg (txnEnd x l s).1.cells, Hp HB i (txnEnd x l s).2 ++ r) := by
 have h1 := fun r => wants_eq hi hs.ne gRb r
 have t1 := wants_to hs gRb
 have h2 := fun r => takes_eq hi t1.good.ne [kCommit] (by simp) (.inr rfl) r
 have t2 := t1.trans (takes_to t1.good [kCommit])
 have h3 := fun r => wants_eq hi t2.good.ne gSe r
 unfold txnEnd
 dsimp only
 obtain ⟨o, s3, ho⟩ : ∃ o s3, (s.wants gRb).takes [kCommit] = (o, s3) := ⟨_, _, rfl⟩
 simp only [ho, seesV, List.map_cons, List.map_nil, tx] at h2 h3 ⊢
 have hr1 : Ex.rows [x] = [x.cells] := rfl
 have hm0 : Sm.rows [] = [] := rfl
 obtain ⟨xo, xn, xt, xl⟩ := x
 simp only [Ex.cells_mk] at hr1 ⊢
 subst hz
 cases l with
 | nil => simp [r_pp_txn_0, g0, g4, g5, h1, h2, h3, hr1, hm0, bodyV, Sm.cells_mk, Hp_len]
 | cons a l => simp [r_pp_txn_0, g0, g4, g5, h1, h2, h3, hr1, hm0, bodyV, Sm.cells_mk, Hp_len]
theorem txn_loop {stm : SF} {len : Nat} {d : Int} (hto : ∀ d, Goes' (stm d)) (hst : SpecS stm len) (hd0 : 0 ≤ d) (hd9 : d ≤ 8) (hi : i < HB.length) (r : Heap) (x : Ex) (z : Option (List V)) (hz : z = some [.int .i64 0, .str [], .int .i64 0, .own 4 [], .own 7 [], .own 7 [], .bool false]) :
  ∀ (k : Nat) (l : List Sm) (s : PS) (φ : Fr), l.length + k = 8 → s.good → s.left.length ≤ len → 0 ≤ s.st → s.st + (s.left.length : Int) ≤ 5000 → Fr.get φ 0 = .ptr i 0 → Fr.get φ 1 = .int .i64 d → Fr.get φ 4 = .ptr (HB.length + r.length) 0 → Fr.get φ 5 = .ptr (HB.length + (r.length + 1)) 0 →
   M (eval tbl noExt) [.code l_pp_txn_0, .blk 0, .code r_pp_txn_0, .fin [.cell 4 (some 7)] (HB.length + r.length)] φ (Hp HB i s ++ (r ++ [z, some [.int .i64 16, .str [], .int .i64 0, .sl 4 [x.cells], bodyV l, .sl 7 [], .bool false]])) =
    some (.agg (txnEnd x (txnG (stm (d + 1)) k l s).1 (txnG (stm (d + 1)) k l s).2).1.cells, Hp HB i (txnEnd x (txnG (stm (d + 1)) k l s).1 (txnG (stm (d + 1)) k l s).2).2 ++ r) := by
 intro k
 induction k with
 | zero =>
  intro l s φ hk hs hl h0 hb g0 g1 g4 g5
  have h1 := fun r => sees_eq hi hs.ne [kWrite] (by simp) (.inr rfl) r
  have h2 := fun r => phead_eq hi hs.ne r
  have h3 := fun r => pfail_eq hi s 14 s.head r
  have hrl := Sm.rows_ln l
  have hl8 : l.length = 8 := by omega
  have hne : l ≠ [] := fun e => by subst e; simp at hl8
  have hbody : bodyV l = .own 7 (Sm.rows l) := by unfold bodyV; rw [if_neg hne]
  unfold txnG
  rw [l_pp_txn_0, M_loop]
  cases ho : s.sees [kWrite] with
  | none =>
   simp only [ho, seesV, List.map_cons, List.map_nil, tx] at h1
   have hT := fun φ' => txn_tail hi r x l hs φ' z hz
   rw [if_neg (by simp)]
   simp [b_pp_txn_0, g0, g1, g4, g5, h1, Hp_len]
   refine hT _ ?_ ?_ ?_ <;> simp [g0, g4, g5]
  | some t =>
   simp only [ho, seesV, List.map_cons, List.map_nil, tx] at h1
   have hT := fun φ' => txn_tail hi r x l (fail_to hs (show (14 : Int) ≠ 0 by omega) s.head).good φ' z hz
   rw [if_pos (by rfl)]
   rw [hbody] at hT ⊢
   simp [b_pp_txn_0, g0, g1, g4, g5, h1, h2, h3, hrl, hl8, Hp_len]
   refine hT _ ?_ ?_ ?_ <;> simp [g0, g4, g5]
 | succ k ih =>
  intro l s φ hk hs hl h0 hb g0 g1 g4 g5
  have h1 := fun r => sees_eq hi hs.ne [kWrite] (by simp) (.inr rfl) r
  have A6 := ar_suci d hd0 (by omega)
  have hrl := Sm.rows_ln l
  have hl8 : ¬ l.length = 8 := by omega
  have hl8' : ¬ (l.length : Int) = 8 := by omega
  unfold txnG
  rw [l_pp_txn_0, M_loop, ← l_pp_txn_0]
  cases ho : s.sees [kWrite] with
  | none =>
   simp only [ho, seesV, List.map_cons, List.map_nil, tx] at h1
   have hT := fun φ' => txn_tail hi r x l hs φ' z hz
   rw [if_neg (by simp)]
   simp [b_pp_txn_0, g0, g1, g4, g5, h1, Hp_len]
   refine hT _ ?_ ?_ ?_ <;> simp [g0, g4, g5]
  | some t =>
   simp only [ho, seesV, List.map_cons, List.map_nil, tx] at h1
   rw [if_pos (by rfl)]
   have hS := fun r => hst HB i hi s hs hl h0 hb (d + 1) (by omega) (by omega) r
   have gto := hto (d + 1) s hs
   obtain ⟨y, s2, hy⟩ : ∃ y s2, stm (d + 1) s = (y, s2) := ⟨_, _, rfl⟩
   simp only [hy] at hS gto ⊢
   have hcnt := gto.cnt
   have hnext := ih (l ++ [y]) s2
   have hbody2 : bodyV (l ++ [y]) = .own 7 (Sm.rows l ++ [y.cells]) := by unfold bodyV; rw [if_neg (by simp), Sm.rows_snoc]
   have hcap : 2 * (l.length + 1) * 112 ≤ 281474976710656 := by omega
   rw [hbody2] at hnext
   obtain ⟨y1, y2, y3, y4, y5, y6, y7⟩ := y
   simp only [Sm.cells_mk] at hS hnext
   cases l with
   | nil =>
    have hb0 : bodyV [] = .nils 7 := rfl
    have hm0 : Sm.rows [] = [] := rfl
    rw [hb0]
    rw [hm0] at hnext
    simp [-arith, b_pp_txn_0, g0, g1, g4, g5, h1, hS, A6, hm0, Hp_len]
    refine hnext _ (by simp at hk; simp; omega) gto.good (Nat.le_trans gto.len hl) (by omega) (by omega) ?_ ?_ ?_ ?_ <;> simp [g0, g1, g4, g5]
   | cons a l =>
    have hb0 : bodyV (a :: l) = .own 7 (Sm.rows (a :: l)) := rfl
    rw [hb0]
    generalize Sm.rows (a :: l) = R at hnext hrl ⊢
    generalize a :: l = L at hnext hrl hk hcap hl8 hl8' ⊢
    simp [-arith, b_pp_txn_0, g0, g1, g4, g5, h1, hS, A6, hrl, hl8, hl8', hcap, Hp_len]
    refine hnext _ (by simp; omega) gto.good (Nat.le_trans gto.len hl) (by omega) (by omega) ?_ ?_ ?_ ?_ <;> simp [g0, g1, g4, g5]
theorem txn_eq {stm : SF} {len : Nat} {d : Int} (hto : ∀ d, Goes' (stm d)) (hst : SpecS stm len) (hi : i < HB.length) {s : PS} (hs : s.good) (hl : s.left.length ≤ len) (h0 : 0 ≤ s.st) (hb : s.st + (s.left.length : Int) ≤ 5000) (hd0 : 0 ≤ d) (hd9 : d ≤ 8) (r : Heap) :
  eval tbl noExt n_pp_txn [.ptr i 0, .int .i64 d] (Hp HB i s ++ r) = some (.agg (txnP stm len d s).1.cells, Hp HB i (txnP stm len d s).2 ++ r) := by
 have h1 := fun r => pwhole_eq gLb len hi hs hl r
 have g1 := wholeP_to gLb len s hs
 show _ = some (V.agg (txnEnd (wholeP gLb len s).1 (txnG (stm (d + 1)) 8 [] ((wholeP gLb len s).2.wants gLb)).1 (txnG (stm (d + 1)) 8 [] ((wholeP gLb len s).2.wants gLb)).2).1.cells, Hp HB i (txnEnd (wholeP gLb len s).1 (txnG (stm (d + 1)) 8 [] ((wholeP gLb len s).2.wants gLb)).1 (txnG (stm (d + 1)) 8 [] ((wholeP gLb len s).2.wants gLb)).2).2 ++ r)
 obtain ⟨x, s1, hx⟩ : ∃ x s1, wholeP gLb len s = (x, s1) := ⟨_, _, rfl⟩
 simp only [hx] at h1 g1 ⊢
 have h2 := fun r => wants_eq hi g1.good.ne gLb r
 have g2 := g1.trans (wants_to g1.good gLb)
 have hcnt := g2.cnt
 have hnext := txn_loop hto hst hd0 hd9 hi r x _ rfl 8 [] (s1.wants gLb)
 have hb0 : bodyV [] = .nils 7 := rfl
 rw [hb0] at hnext
 generalize txnEnd x (txnG (stm (d + 1)) 8 [] (s1.wants gLb)).1 (txnG (stm (d + 1)) 8 [] (s1.wants gLb)).2 = E at hnext ⊢
 obtain ⟨xo, xn, xt, xl⟩ := x
 simp only [Ex.cells_mk] at h1 hnext
 rw [eval_M rfl rfl t_pp_txn rfl]
 simp [-arith, c_pp_txn, h1, h2, Hp_len]
 refine hnext _ rfl g2.good (Nat.le_trans g2.len hl) (by omega) (by omega) ?_ ?_ ?_ ?_ <;> simp
end
theorem simple_range {w : Wx} {op : Int} (h : simpleP w = some op) : 1 ≤ op ∧ op ≤ 18 := by
 unfold simpleP at h
 by_cases h4 : w.kind = 4
 ·rw [if_pos h4] at h
  by_cases a0 : w.s = kCreate
  ·rw [if_pos a0] at h; cases h; decide
  rw [if_neg a0] at h
  by_cases a1 : w.s = kMkdir
  ·rw [if_pos a1] at h; cases h; decide
  rw [if_neg a1] at h
  by_cases a2 : w.s = kWrite
  ·rw [if_pos a2] at h; cases h; decide
  rw [if_neg a2] at h
  by_cases a3 : w.s = kAppend
  ·rw [if_pos a3] at h; cases h; decide
  rw [if_neg a3] at h
  by_cases a4 : w.s = kTruncate
  ·rw [if_pos a4] at h; cases h; decide
  rw [if_neg a4] at h
  by_cases a5 : w.s = kRename
  ·rw [if_pos a5] at h; cases h; decide
  rw [if_neg a5] at h
  by_cases a6 : w.s = kUnlink
  ·rw [if_pos a6] at h; cases h; decide
  rw [if_neg a6] at h
  by_cases a7 : w.s = kFsync
  ·rw [if_pos a7] at h; cases h; decide
  rw [if_neg a7] at h
  by_cases a8 : w.s = kFdatasync
  ·rw [if_pos a8] at h; cases h; decide
  rw [if_neg a8] at h
  by_cases a9 : w.s = kSyncdir
  ·rw [if_pos a9] at h; cases h; decide
  rw [if_neg a9] at h
  by_cases a10 : w.s = kReplay
  ·rw [if_pos a10] at h; cases h; decide
  rw [if_neg a10] at h
  by_cases a11 : w.s = kAssert
  ·rw [if_pos a11] at h; cases h; decide
  rw [if_neg a11] at h
  by_cases a12 : w.s = kBarrier
  ·rw [if_pos a12] at h; cases h; decide
  rw [if_neg a12] at h
  cases h
 ·rw [if_neg h4] at h; cases h
theorem simple_none {w : Wx} {v : List UInt8} (hws : w.s = v) (hv : v = kLet ∨ v = kCall ∨ v = kIf ∨ v = kRepeat ∨ v = kTxn) : simpleP w = none := by
 unfold simpleP
 rw [hws]
 by_cases h4 : w.kind = 4
 ·rw [if_pos h4]
  rcases hv with rfl | rfl | rfl | rfl | rfl <;> kernel_rfl
 ·rw [if_neg h4]
theorem stmtB_less {stm : SF} (hs : ∀ d, Goes' (stm d)) (n : Nat) : Less (stmtB stm n) := fun deep s h => by
 unfold stmtB
 dsimp only
 split
 ·exact fun hc => absurd hc (fail_dirty (by omega) _)
 ·rename_i hno
  have hk : s.head.kind ≠ 0 := by
   cases ho : s.sees [kLet, kCall, kIf, kRepeat, kTxn] with
   | some t => exact (sees_kind ho).1
   | none =>
    refine simple_kind ?_
    cases hq : (simpleP s.head).isNone with
    | false => rfl
    | true => exact absurd ⟨hq, by rw [ho]; rfl⟩ hno
  split
  ·exact fun hc => absurd hc (fail_dirty (by omega) _)
  ·have h1 := st_skip h hk
   have h2 := h.two hk
   have e : PS.skip ⟨s.left, s.fe, s.fa, s.st + 1, s.o⟩ = ⟨s.left.tail, s.fe, s.fa, s.st + 1, false⟩ := skip_two h2
   have h3 : (PS.skip ⟨s.left, s.fe, s.fa, s.st + 1, s.o⟩).left.length < s.left.length := by rw [e]; simp only [List.length_tail]; omega
   generalize PS.skip ⟨s.left, s.fe, s.fa, s.st + 1, s.o⟩ = r at h1 h3
   intro _
   split
   ·exact Nat.lt_of_le_of_lt (exprsP_to n _ _ h1.good).len h3
   ·split
    ·exact Nat.lt_of_le_of_lt (letP_to n _ h1.good).len h3
    ·split
     ·exact Nat.lt_of_le_of_lt (callP_to n _ h1.good).len h3
     ·split
      ·exact Nat.lt_of_le_of_lt (choiceP_to (hs _) n _ h1.good).len h3
      ·split
       ·exact Nat.lt_of_le_of_lt (loopP_to (hs _) n _ h1.good).len h3
       ·exact Nat.lt_of_le_of_lt (txnP_to (hs _) n _ h1.good).len h3
theorem stmtB_eq {stm : SF} {len : Nat} (hlen : len ≤ 4999) (hto : ∀ d, Goes' (stm d)) (hst : SpecS stm len) (hless : 1 ≤ len → Less stm) : SpecS (stmtB stm len) (len + 1) := by
 intro HB i hi s hs hl h0 hb d hd0 hd9 r
 have h1 := fun r => phead_eq hi hs.ne r
 have h2 := psimple_eq s.head []
 have h3 := fun r => sees_eq hi hs.ne [kLet, kCall, kIf, kRepeat, kTxn] (by simp) (.inr rfl) r
 have h4 := fun r => pfail_eq hi s 12 s.head r
 have gI := fun r => gHp hi s r
 have A6 := ar_suci s.st h0 (by omega)
 unfold PS.cells at gI
 unfold stmtB
 dsimp only
 obtain ⟨w, hw⟩ : ∃ w, w = s.head := ⟨_, rfl⟩
 have hkw : s.head.kind = w.kind := by rw [hw]
 rw [← hw] at h1 h2 h4 ⊢
 have hwc : w.cells = [iw w.kind, .str w.s, iw w.n, iw w.a] := rfl
 rw [hwc] at h1 h2 h4
 have hr0 : Ex.rows [] = [] := rfl
 have hm0 : Sm.rows [] = [] := rfl
 obtain ⟨p, hp⟩ : ∃ p, p = simpleP w := ⟨_, rfl⟩
 obtain ⟨o, ho⟩ : ∃ o, o = s.sees [kLet, kCall, kIf, kRepeat, kTxn] := ⟨_, rfl⟩
 rw [← hp] at h2 ⊢
 rw [← ho] at h3 ⊢
 simp only [seesV, List.map_cons, List.map_nil, tx] at h3
 rw [eval_M rfl rfl t_pp_stmt rfl]
 by_cases hno : p.isNone = true ∧ o.isNone = true
 ·rw [if_pos hno]
  have e1 : p = none := by cases p <;> simp_all
  have e2 : o = none := by cases o <;> simp_all
  rw [e1] at h2
  rw [e2] at h3
  simp [-arith, c_pp_stmt, h1, h2, h3, h4, zm, hr0, hm0, hwc, Sm.cells_mk, Hp_len]
 rw [if_neg hno]
 have hk : w.kind ≠ 0 := by
  cases o with
  | some t => rw [← hkw]; exact (sees_kind ho.symm).1
  | none =>
   refine simple_kind ?_
   rw [← hp]
   cases p with
   | some v => rfl
   | none => exact absurd ⟨rfl, rfl⟩ hno
 have hks : s.head.kind ≠ 0 := by rw [hkw]; exact hk
 have hpo : (p.isSome || o.isSome) = true := by
  cases p with
  | some v => rfl
  | none => cases o with
   | some v => rfl
   | none => exact absurd ⟨rfl, rfl⟩ hno
 obtain ⟨t, ht⟩ : ∃ t : PS, t = ⟨s.left, s.fe, s.fa, s.st + 1, s.o⟩ := ⟨_, rfl⟩
 have gt : t.good := by rw [ht]; exact st_good hs _
 have hset : ∀ r, (Hp HB i s ++ r).set i (some [s.lv, iw s.fe, iw s.fa, .int .i64 (s.st + 1)]) = Hp HB i t ++ r := fun r => by rw [ht]; exact sHp hi s ⟨s.left, s.fe, s.fa, s.st + 1, s.o⟩ r
 have gT := fun r => gHp hi t r
 have htc : t.cells = [t.lv, iw s.fe, iw s.fa, iw (s.st + 1)] := by rw [ht]; rfl
 rw [htc] at gT
 have hcond : ∀ (A B : Bool), (A || B) = true → (!A && !B) = false := by decide
 have hpo' := hcond _ _ hpo
 have h5 := fun r => pfail_eq hi t 14 w r
 rw [hwc] at h5
 have hl8 : s.left.length ≤ len + 1 := hl
 by_cases hbig : 256 < s.st + 1 ∨ 8 < d
 ·rw [if_pos hbig, ← ht]
  have h6 : (p.isSome = true ∨ o.isSome = true) := by simpa using hpo
  have h7 : (!p.isSome && !o.isSome) = false := hpo'
  by_cases hb1 : 256 < s.st + 1
  ·cases hps : p.isSome with
   | true =>
    rw [hps] at h2
    simp [-arith, c_pp_stmt, h1, h2, h3, h5, gI, gT, hset, A6, hb1, zm, hr0, hm0, hwc, Sm.cells_mk, Hp_len]
   | false =>
    have hos : o.isSome = true := by rw [hps] at hpo; simpa using hpo
    rw [hps] at h2
    rw [hos] at h3
    simp [-arith, c_pp_stmt, h1, h2, h3, h5, gI, gT, hset, A6, hb1, zm, hr0, hm0, hwc, Sm.cells_mk, Hp_len]
  ·have hb2 : 8 < d := by omega
   cases hps : p.isSome with
   | true =>
    rw [hps] at h2
    simp [-arith, c_pp_stmt, h1, h2, h3, h5, gI, gT, hset, A6, hb1, hb2, zm, hr0, hm0, hwc, Sm.cells_mk, Hp_len]
   | false =>
    have hos : o.isSome = true := by rw [hps] at hpo; simpa using hpo
    rw [hps] at h2
    rw [hos] at h3
    simp [-arith, c_pp_stmt, h1, h2, h3, h5, gI, gT, hset, A6, hb1, hb2, zm, hr0, hm0, hwc, Sm.cells_mk, Hp_len]
 ·rw [if_neg hbig, ← ht]
  have hb1 : ¬ 256 < s.st + 1 := fun h => hbig (.inl h)
  have hb2 : ¬ 8 < d := fun h => hbig (.inr h)
  have hth : t.head = w := by rw [ht, hw]; rfl
  have hsk := skip_good gt (by rw [hth]; exact hk)
  have h6 := fun r => pskip_eq hi gt.ne r
  rw [hth, hwc] at h6
  have htl : t.left = s.left := by rw [ht]
  have hts : t.skip.st = s.st + 1 := by
   have : t.skip.st = t.st := by unfold PS.skip; split <;> rfl
   rw [this, ht]
  rw [htl] at hsk
  obtain ⟨u, hu⟩ : ∃ u, u = t.skip := ⟨_, rfl⟩
  rw [← hu] at h6 hsk hts ⊢
  obtain ⟨gu, hul, hucl⟩ := hsk
  have hup := gu.pos
  have hles := hless (by omega)
  cases o with
  | none =>
   cases p with
   | none => exact absurd ⟨rfl, rfl⟩ hno
   | some op =>
    obtain ⟨q1, q2⟩ := simple_range hp.symm
    have h7 := fun r => exprs_eq len op q1 q2 hi gu (by omega) r
    simp [-arith, c_pp_stmt, h1, h2, h3, h6, h7, gI, gT, hset, A6, hb1, hb2, hr0, hm0, hwc, Sm.cells_mk, Hp_len]
  | some v =>
   obtain ⟨_, hv, hmem⟩ := sees_kind ho.symm
   have hws : w.s = v := by rw [hv, hw]
   have hpn : p = none := by
    rw [hp]
    refine simple_none hws ?_
    simpa only [List.mem_cons, List.not_mem_nil, or_false] using hmem
   rw [hpn] at h2
   dsimp only
   by_cases v1 : v = kLet
   ·rw [if_pos v1]
    rw [v1] at h3
    have g1 := of_to gu 1
    have h7 := fun r => of_eq hi gu.ne 1 r
    have h8 := fun r => wants_eq hi g1.good.ne [61] r
    have g2 := g1.trans (wants_to g1.good [61])
    have h9 := fun r => exprs_eq len 12 (by omega) (by omega) hi g2.good (Nat.le_trans g2.len (by omega)) r
    unfold letP
    dsimp only
    obtain ⟨x, s2, hx⟩ : ∃ x s2, u.of 1 = (x, s2) := ⟨_, _, rfl⟩
    simp only [hx] at h7 h8 h9 ⊢
    have hxc : x.cells = [iw x.kind, .str x.s, iw x.n, iw x.a] := rfl
    rw [hxc] at h7
    simp [-arith, c_pp_stmt, h1, h2, h3, h6, h7, h8, h9, gI, gT, hset, A6, hb1, hb2, hr0, hm0, hwc, Sm.cells_mk, Hp_len]
   rw [if_neg v1]
   by_cases v2 : v = kCall
   ·rw [if_pos v2]
    rw [v2] at h3
    have g1 := of_to gu 1
    have h7 := fun r => of_eq hi gu.ne 1 r
    have h9 := fun r => exprs_eq len 15 (by omega) (by omega) hi g1.good (Nat.le_trans g1.len (by omega)) r
    unfold callP
    dsimp only
    obtain ⟨x, s2, hx⟩ : ∃ x s2, u.of 1 = (x, s2) := ⟨_, _, rfl⟩
    simp only [hx] at h7 h9 ⊢
    have hxc : x.cells = [iw x.kind, .str x.s, iw x.n, iw x.a] := rfl
    rw [hxc] at h7
    simp [-arith, c_pp_stmt, h1, h2, h3, h6, h7, h9, gI, gT, hset, A6, hb1, hb2, hr0, hm0, hwc, Sm.cells_mk, Hp_len]
   rw [if_neg v2]
   by_cases v3 : v = kIf
   ·rw [if_pos v3]
    rw [v3] at h3
    have h7 := fun r => choice_eq (d := d) (by omega) hto hst hles hi gu (by omega) (by omega) (by omega) hd0 (by omega) r
    obtain ⟨x, s2, hx⟩ : ∃ x s2, choiceP stm len d u = (x, s2) := ⟨_, _, rfl⟩
    simp only [hx] at h7 ⊢
    obtain ⟨x1, x2, x3, x4, x5, x6, x7⟩ := x
    simp only [Sm.cells_mk] at h7
    simp [-arith, c_pp_stmt, h1, h2, h3, h6, h7, gI, gT, hset, A6, hb1, hb2, hr0, hm0, hwc, Sm.cells_mk, Hp_len]
   rw [if_neg v3]
   by_cases v4 : v = kRepeat
   ·rw [if_pos v4]
    rw [v4] at h3
    have h7 := fun r => loop17_eq (d := d) (by omega) hto hst hles hi gu (by omega) (by omega) (by omega) hd0 (by omega) r
    obtain ⟨x, s2, hx⟩ : ∃ x s2, loopP stm len d u = (x, s2) := ⟨_, _, rfl⟩
    simp only [hx] at h7 ⊢
    obtain ⟨x1, x2, x3, x4, x5, x6, x7⟩ := x
    simp only [Sm.cells_mk] at h7
    simp [-arith, c_pp_stmt, h1, h2, h3, h6, h7, gI, gT, hset, A6, hb1, hb2, hr0, hm0, hwc, Sm.cells_mk, Hp_len]
   rw [if_neg v4]
   have v5 : v = kTxn := by
    simp only [List.mem_cons, List.not_mem_nil, or_false] at hmem
    rcases hmem with h | h | h | h | h
    ·exact absurd h v1
    ·exact absurd h v2
    ·exact absurd h v3
    ·exact absurd h v4
    ·exact h
   rw [v5] at h3
   have h7 := fun r => txn_eq (d := d) hto hst hi gu (by omega) (by omega) (by omega) hd0 (by omega) r
   obtain ⟨x, s2, hx⟩ : ∃ x s2, txnP stm len d u = (x, s2) := ⟨_, _, rfl⟩
   simp only [hx] at h7 ⊢
   obtain ⟨x1, x2, x3, x4, x5, x6, x7⟩ := x
   simp only [Sm.cells_mk] at h7
   simp [-arith, c_pp_stmt, h1, h2, h3, h6, h7, gI, gT, hset, A6, hb1, hb2, hr0, hm0, hwc, Sm.cells_mk, Hp_len]
theorem stmt_eq : ∀ n, n ≤ 5000 → SpecS (stmtP n) n
 | 0, _ => fun HB i hi s hs hl => by have := hs.pos; omega
 | n + 1, h => stmtB_eq (by omega) (stmtP_to n) (stmt_eq n (by omega)) (fun h1 => by
  obtain ⟨m, rfl⟩ : ∃ m, n = m + 1 := ⟨n - 1, by omega⟩
  exact stmtB_less (stmtP_to m) m)
theorem namedP_to (key : List UInt8) (n : Nat) : Goes' (namedP key n) := fun s h => by
 unfold namedP
 obtain ⟨o, r, hr⟩ : ∃ o r, s.takes [key] = (o, r) := ⟨_, _, rfl⟩
 rw [hr]
 cases o with
 | none => obtain ⟨rfl, _⟩ := takes_none hr; exact to.refl h
 | some t =>
  have h1 := (takes_some h hr).2.2.1
  dsimp only
  split
  ·have h2 := h1.trans (fail_to h1.good (show (14 : Int) ≠ 0 by omega) s.head)
   exact h2.trans (of_to h2.good 1)
  ·exact h1.trans (of_to h1.good 1)
theorem named_eq (key : List UInt8) (n : Nat) {HB : Heap} {i : Nat} (hi : i < HB.length) {s : PS} (hs : s.good) {ni : Int} (hni : ni = (n : Int)) (r : Heap) :
  eval tbl noExt n_pp_named [.ptr i 0, .str key, .int .i64 ni] (Hp HB i s ++ r) = some (seesV (namedP key n s).1, Hp HB i (namedP key n s).2 ++ r) := by
 subst hni
 have h1 := fun r => phead_eq hi hs.ne r
 have h2 := fun r => takes_eq hi hs.ne [key] (by simp) (.inr rfl) r
 obtain ⟨w, hw⟩ : ∃ w, w = s.head := ⟨_, rfl⟩
 have hwc : w.cells = [iw w.kind, .str w.s, iw w.n, iw w.a] := rfl
 unfold namedP
 obtain ⟨o, s1, ho⟩ : ∃ o r, s.takes [key] = (o, r) := ⟨_, _, rfl⟩
 simp only [ho, seesV, List.map_cons, List.map_nil, tx] at h2 ⊢
 rw [← hw] at h1 ⊢
 rw [hwc] at h1
 rw [eval_M rfl rfl t_pp_named rfl]
 cases o with
 | none =>
  obtain ⟨rfl, _⟩ := takes_none ho
  simp [c_pp_named, h1, h2, Hp_len]
 | some t =>
  have g1 := (takes_some hs ho).2.2.1
  have h3 := fun r => pfail_eq hi s1 14 w r
  rw [hwc] at h3
  dsimp only
  by_cases h16 : n = 16
  ·have h16' : (n : Int) = 16 := by omega
   rw [if_pos h16]
   have g2 := fail_to g1.good (show (14 : Int) ≠ 0 by omega) w
   have h4 := fun r => of_eq hi g2.good.ne 1 r
   obtain ⟨x, s2, hx⟩ : ∃ x s2, (s1.fail 14 w).of 1 = (x, s2) := ⟨_, _, rfl⟩
   simp only [hx] at h4 ⊢
   have hxc : x.cells = [iw x.kind, .str x.s, iw x.n, iw x.a] := rfl
   rw [hxc] at h4
   simp [c_pp_named, h1, h2, h3, h4, h16, h16', Hp_len]
  ·have h16' : ¬ (n : Int) = 16 := by omega
   rw [if_neg h16]
   have h4 := fun r => of_eq hi g1.good.ne 1 r
   obtain ⟨x, s2, hx⟩ : ∃ x s2, s1.of 1 = (x, s2) := ⟨_, _, rfl⟩
   simp only [hx] at h4 ⊢
   have hxc : x.cells = [iw x.kind, .str x.s, iw x.n, iw x.a] := rfl
   rw [hxc] at h4
   simp [c_pp_named, h1, h2, h4, h16, h16', Hp_len]
def procsG (stm : SF) (len : Nat) : Nat → List (List UInt8 × List Sm) → PS → List (List UInt8 × List Sm) × PS
 | 0, l, s => (l, s)
 | k + 1, l, s => match namedP kProc l.length s with
  | (none, r) => (l, r)
  | (some nm, r) => procsG stm len k (l ++ [(nm, (blockP stm len 1 r).1)]) (blockP stm len 1 r).2
def prow (x : List UInt8 × List Sm) : List V := [.str x.1, .sl 7 (Sm.rows x.2)]
theorem named_some {key : List UInt8} {n : Nat} {s r : PS} (hs : s.good) {nm : List UInt8} (h : namedP key n s = (some nm, r)) : r.left.length + 1 ≤ s.left.length := by
 unfold namedP at h
 obtain ⟨o, s1, ho⟩ : ∃ o r, s.takes [key] = (o, r) := ⟨_, _, rfl⟩
 rw [ho] at h
 cases o with
 | none => cases h
 | some t =>
  obtain ⟨_, _, g1, hln, _, _⟩ := takes_some hs ho
  dsimp only at h
  split at h
  ·have g2 := fail_to g1.good (show (14 : Int) ≠ 0 by omega) s.head
   have g3 := of_to g2.good 1
   have h1 := g2.len
   have h2 := g3.len
   cases h
   omega
  ·have g3 := of_to g1.good 1
   have h2 := g3.len
   cases h
   omega
theorem proc_loop {stm : SF} {len : Nat} (hlen : len ≤ 5000) (hto : ∀ d, Goes' (stm d)) (hst : SpecS stm len) (hless : Less stm) {HB : Heap} {i : Nat} (hi : i < HB.length) (r : Heap) (z : Option (List V)) (Q : Option (V × Heap) → Prop) (kk : List Item) (L : List (List UInt8 × List Sm)) (S : PS)
  (hexit : ∀ φ', Fr.get φ' 0 = .ptr i 0 → Fr.get φ' 2 = .ptr (HB.length + r.length) 0 → Fr.get φ' 3 = .ptr (HB.length + (r.length + 1)) 0 → Q (M (eval tbl noExt) kk φ' (Hp HB i S ++ (r ++ [z, some [.own 2 (L.map prow), .own 7 [], .own 7 [], .own 5 []]])))) :
  ∀ (k : Nat) (l : List (List UInt8 × List Sm)) (s : PS) (φ : Fr), l.length + k ≤ 10000 → s.good → s.left.length ≤ len → s.left.length ≤ k → 0 ≤ s.st → s.st + (s.left.length : Int) ≤ 5000 → procsG stm len k l s = (L, S) → Fr.get φ 0 = .ptr i 0 → Fr.get φ 2 = .ptr (HB.length + r.length) 0 → Fr.get φ 3 = .ptr (HB.length + (r.length + 1)) 0 →
   Q (M (eval tbl noExt) (.code l_pp_program_0 :: .blk 0 :: kk) φ (Hp HB i s ++ (r ++ [z, some [.own 2 (l.map prow), .own 7 [], .own 7 [], .own 5 []]]))) := by
 intro k
 induction k with
 | zero => intro l s φ hk hs hl hlk; have := hs.pos; omega
 | succ k ih =>
  intro l s φ hk hs hl hlk h0 hb hG g0 g2 g3
  have h1 := fun r => named_eq kProc l.length hi hs rfl r
  have gto := namedP_to kProc l.length s hs
  unfold procsG at hG
  obtain ⟨o, s1, ho⟩ : ∃ o s1, namedP kProc l.length s = (o, s1) := ⟨_, _, rfl⟩
  simp only [ho, seesV] at h1 gto hG
  rw [l_pp_program_0, M_loop, ← l_pp_program_0]
  cases o with
  | none =>
   cases hG
   simp [b_pp_program_0, g0, g2, g3, h1, Hp_len]
   refine hexit _ ?_ ?_ ?_ <;> simp [g0, g2, g3]
  | some nm =>
   have hlt := named_some hs ho
   have hcnt := gto.cnt
   have h2 := fun r => pblock_eq hlen hto hst hless hi gto.good (by omega) (by omega) (by omega) 1 (by omega) (by omega) r
   have g4 := blockP_to (hto 1) len s1 gto.good
   obtain ⟨b, s2, hb2⟩ : ∃ b s2, blockP stm len 1 s1 = (b, s2) := ⟨_, _, rfl⟩
   simp only [hb2] at h2 g4 hG
   have hcnt2 := g4.cnt
   have hlen2 := g4.len
   have hcap : 2 * (l.length + 1) * 40 ≤ 281474976710656 := by omega
   have hnext := fun φ => ih (l ++ [(nm, b)]) s2 φ (by simp; omega) g4.good (by omega) (by omega) (by omega) (by omega) hG
   rw [List.map_append, List.map_cons, List.map_nil] at hnext
   simp only [prow] at hnext ⊢
   simp [b_pp_program_0, g0, g2, g3, h1, h2, hcap, Hp_len]
   refine hnext _ ?_ ?_ ?_ <;> simp [g0, g2, g3]
def oraclesG (len : Nat) : Nat → List (List UInt8 × Ex) → PS → List (List UInt8 × Ex) × PS
 | 0, l, s => (l, s)
 | k + 1, l, s => match namedP kOracle l.length s with
  | (none, r) => (l, r)
  | (some nm, r) => oraclesG len k (l ++ [(nm, (wholeP gSe len (r.wants gCl)).1)]) ((wholeP gSe len (r.wants gCl)).2.wants gSe)
def orow (x : List UInt8 × Ex) : List V := .str x.1 :: x.2.cells
theorem oracle_loop {len : Nat} (hlen : len ≤ 5000) {HB : Heap} {i : Nat} (hi : i < HB.length) (r : Heap) (z : Option (List V)) (p m c : V) (Q : Option (V × Heap) → Prop) (kk : List Item) (L : List (List UInt8 × Ex)) (S : PS)
  (hexit : ∀ φ', Fr.get φ' 0 = .ptr i 0 → Fr.get φ' 2 = .ptr (HB.length + r.length) 0 → Fr.get φ' 3 = .ptr (HB.length + (r.length + 1)) 0 → Q (M (eval tbl noExt) kk φ' (Hp HB i S ++ (r ++ [z, some [p, m, c, .own 5 (L.map orow)]])))) :
  ∀ (k : Nat) (l : List (List UInt8 × Ex)) (s : PS) (φ : Fr), l.length + k ≤ 10000 → s.good → s.left.length ≤ len → s.left.length ≤ k → oraclesG len k l s = (L, S) → Fr.get φ 0 = .ptr i 0 → Fr.get φ 2 = .ptr (HB.length + r.length) 0 → Fr.get φ 3 = .ptr (HB.length + (r.length + 1)) 0 →
   Q (M (eval tbl noExt) (.code l_pp_program_1 :: .blk 2 :: kk) φ (Hp HB i s ++ (r ++ [z, some [p, m, c, .own 5 (l.map orow)]]))) := by
 intro k
 induction k with
 | zero => intro l s φ hk hs hl hlk; have := hs.pos; omega
 | succ k ih =>
  intro l s φ hk hs hl hlk hG g0 g2 g3
  have h1 := fun r => named_eq kOracle l.length hi hs rfl r
  have gto := namedP_to kOracle l.length s hs
  unfold oraclesG at hG
  obtain ⟨o, s1, ho⟩ : ∃ o s1, namedP kOracle l.length s = (o, s1) := ⟨_, _, rfl⟩
  simp only [ho, seesV] at h1 gto hG
  rw [l_pp_program_1, M_loop, ← l_pp_program_1]
  cases o with
  | none =>
   cases hG
   simp [b_pp_program_1, g0, g2, g3, h1, Hp_len]
   refine hexit _ ?_ ?_ ?_ <;> simp [g0, g2, g3]
  | some nm =>
   have hlt := named_some hs ho
   have h2 := fun r => wants_eq hi gto.good.ne gCl r
   have t2 := wants_to gto.good gCl
   have h3 := fun r => pwhole_eq gSe len hi t2.good (Nat.le_trans t2.len (by omega)) r
   have t3 := t2.trans (wholeP_to gSe len _ t2.good)
   obtain ⟨x, s2, hx⟩ : ∃ x s2, wholeP gSe len (s1.wants gCl) = (x, s2) := ⟨_, _, rfl⟩
   simp only [hx] at h3 t3 hG
   have h4 := fun r => wants_eq hi t3.good.ne gSe r
   have t4 := t3.trans (wants_to t3.good gSe)
   have hlen4 := t4.len
   have hcap : 2 * (l.length + 1) * 72 ≤ 281474976710656 := by omega
   have hnext := fun φ => ih (l ++ [(nm, x)]) (s2.wants gSe) φ (by simp; omega) t4.good (by omega) (by omega) hG
   rw [List.map_append, List.map_cons, List.map_nil] at hnext
   obtain ⟨xo, xn, xt, xl⟩ := x
   simp only [Ex.cells_mk] at h3
   have hor : orow (nm, Ex.mk xo xn xt xl) = [.str nm, .int .i64 xo, .int .i64 xn, .str xt, .sl 4 (Ex.rows xl)] := rfl
   rw [hor] at hnext
   simp [b_pp_program_1, g0, g2, g3, h1, h2, h3, h4, hcap, Hp_len]
   refine hnext _ ?_ ?_ ?_ <;> simp [g0, g2, g3]
def recP (n : Nat) (s : PS) : List Sm × PS := match s.takes [kRecover] with
 | (some _, r) => blockP (stmtP n) n 1 r
 | (none, r) => ([], r)
def programP (n : Nat) (s : PS) : Pg × PS :=
 let a := procsG (stmtP n) n n [] s
 let b := blockP (stmtP n) n 1 (a.2.wants kMain)
 let c := recP n b.2
 let o := oraclesG n n [] c.2
 (⟨a.1, b.1, c.1, o.1⟩, (o.2.of 0).2)
theorem procsG_to {stm : SF} {len : Nat} (hto : ∀ d, Goes' (stm d)) : ∀ (k : Nat) (l : List (List UInt8 × List Sm)), Goes' (procsG stm len k l)
 | 0, l => fun s h => to.refl h
 | k + 1, l => fun s h => by
  have h1 := namedP_to kProc l.length s h
  unfold procsG
  obtain ⟨o, r, ho⟩ : ∃ o r, namedP kProc l.length s = (o, r) := ⟨_, _, rfl⟩
  rw [ho] at h1 ⊢
  cases o with
  | none => exact h1
  | some nm =>
   have h2 := h1.trans (blockP_to (hto 1) len r h1.good)
   exact h2.trans (procsG_to hto k _ _ h2.good)
theorem oraclesG_to {len : Nat} : ∀ (k : Nat) (l : List (List UInt8 × Ex)), Goes' (oraclesG len k l)
 | 0, l => fun s h => to.refl h
 | k + 1, l => fun s h => by
  have h1 := namedP_to kOracle l.length s h
  unfold oraclesG
  obtain ⟨o, r, ho⟩ : ∃ o r, namedP kOracle l.length s = (o, r) := ⟨_, _, rfl⟩
  rw [ho] at h1 ⊢
  cases o with
  | none => exact h1
  | some nm =>
   have h2 := h1.trans (wants_to h1.good gCl)
   have h3 := h2.trans (wholeP_to gSe len _ h2.good)
   have h4 := h3.trans (wants_to h3.good gSe)
   exact h4.trans (oraclesG_to k _ _ h4.good)
theorem recP_to (n : Nat) : Goes' (recP n) := fun s h => by
 unfold recP
 obtain ⟨o, r, ho⟩ : ∃ o r, s.takes [kRecover] = (o, r) := ⟨_, _, rfl⟩
 rw [ho]
 cases o with
 | none => obtain ⟨rfl, _⟩ := takes_none ho; exact to.refl h
 | some t =>
  have h1 := (takes_some h ho).2.2.1
  exact h1.trans (blockP_to (stmtP_to n 1) n r h1.good)
theorem program_eq (n : Nat) (hn : n ≤ 5000) {HB : Heap} {i : Nat} (hi : i < HB.length) {s : PS} (hs : s.good) (hl : s.left.length ≤ n) (h0 : 0 ≤ s.st) (hb : s.st + (s.left.length : Int) ≤ 5000) (r : Heap) :
  eval tbl noExt n_pp_program [.ptr i 0] (Hp HB i s ++ r) = some (.agg (programP n s).1.cells, Hp HB i (programP n s).2 ++ r) := by
 have hpos := hs.pos
 have hless : Less (stmtP n) := by
  obtain ⟨m, rfl⟩ : ∃ m, n = m + 1 := ⟨n - 1, by omega⟩
  exact stmtB_less (stmtP_to m) m
 have hst := stmt_eq n hn
 unfold programP
 dsimp only
 have ga := procsG_to (len := n) (stmtP_to n) n [] s hs
 obtain ⟨A, s1, hA⟩ : ∃ A s1, procsG (stmtP n) n n [] s = (A, s1) := ⟨_, _, rfl⟩
 simp only [hA] at ga ⊢
 have h1 := fun r => wants_eq hi ga.good.ne kMain r
 have g1 := ga.trans (wants_to ga.good kMain)
 have c1 := g1.cnt
 have h2 := fun r => pblock_eq hn (stmtP_to n) hst hless hi g1.good (Nat.le_trans g1.len hl) (by omega) (by omega) 1 (by omega) (by omega) r
 have g2 := g1.trans (blockP_to (stmtP_to n 1) n _ g1.good)
 obtain ⟨B, s2, hB⟩ : ∃ B s2, blockP (stmtP n) n 1 (s1.wants kMain) = (B, s2) := ⟨_, _, rfl⟩
 simp only [hB] at h2 g2 ⊢
 have c2 := g2.cnt
 have h3 := fun r => takes_eq hi g2.good.ne [kRecover] (by simp) (.inr rfl) r
 have g3 := g2.trans (recP_to n s2 g2.good)
 obtain ⟨C, s3, hC⟩ : ∃ C s3, recP n s2 = (C, s3) := ⟨_, _, rfl⟩
 simp only [hC] at g3 ⊢
 have go := g3.trans (oraclesG_to (len := n) n [] s3 g3.good)
 obtain ⟨O, s4, hO⟩ : ∃ O s4, oraclesG n n [] s3 = (O, s4) := ⟨_, _, rfl⟩
 simp only [hO] at go ⊢
 have h5 := fun r => of_eq hi go.good.ne 0 r
 have hcells : (Pg.mk A B C O).cells = [.sl 2 (A.map prow), .sl 7 (Sm.rows B), .sl 7 (Sm.rows C), .sl 5 (O.map orow)] := rfl
 rw [hcells]
 obtain ⟨z, hz⟩ : ∃ z, z = [V.own 2 [], .own 7 [], .own 7 [], .own 5 []] := ⟨_, rfl⟩
 obtain ⟨o, s2', ho⟩ : ∃ o s2', s2.takes [kRecover] = (o, s2') := ⟨_, _, rfl⟩
 simp only [ho, seesV, List.map_cons, List.map_nil, tx] at h3
 have hrec := hC
 unfold recP at hrec
 rw [ho] at hrec
 have hfin : ∀ φ' c, Fr.get φ' 0 = .ptr i 0 → Fr.get φ' 2 = .ptr (HB.length + r.length) 0 → Fr.get φ' 3 = .ptr (HB.length + (r.length + 1)) 0 → V.strip c = .sl 7 (Sm.rows C) → (c = .own 7 (Sm.rows C)) →
   M (eval tbl noExt) [.code l_pp_program_1, .blk 2, .code r_pp_program_0, .fin [.cell 2 (some 4)] (HB.length + r.length)] φ' (Hp HB i s3 ++ (r ++ [some z, some [.own 2 (A.map prow), .own 7 (Sm.rows B), c, .own 5 []]])) = some (.agg [.sl 2 (A.map prow), .sl 7 (Sm.rows B), .sl 7 (Sm.rows C), .sl 5 (O.map orow)], Hp HB i (s4.of 0).2 ++ r) := by
  intro φ' c g0 g2' g3' _ hc
  subst hc
  refine oracle_loop hn hi r (some z) _ _ _ (fun x => x = _) _ O s4 (fun φ'' k0 k2 k3 => ?_) n [] s3 φ' (by simp; omega) g3.good (Nat.le_trans g3.len hl) (Nat.le_trans g3.len hl) hO g0 g2' g3'
  subst hz
  simp [r_pp_program_0, k0, k2, k3, h5, Hp_len]
 rw [eval_M rfl rfl t_pp_program rfl]
 have hloop := fun φ => proc_loop hn (stmtP_to n) hst hless hi r (some z) (fun x => x = some (V.agg [.sl 2 (A.map prow), .sl 7 (Sm.rows B), .sl 7 (Sm.rows C), .sl 5 (O.map orow)], Hp HB i (s4.of 0).2 ++ r)) [.code r_pp_program_1, .fin [.cell 2 (some 4)] (HB.length + r.length)] A s1 (fun φ' k0 k2 k3 => by
  cases o with
  | none =>
   obtain ⟨rfl, _⟩ := takes_none ho
   dsimp only at hrec
   obtain ⟨rfl, rfl⟩ : C = [] ∧ s3 = s2' := by cases hrec; exact ⟨rfl, rfl⟩
   simp [r_pp_program_1, k0, k2, k3, h1, h2, h3, Hp_len]
   refine hfin _ _ ?_ ?_ ?_ ?_ ?_ <;> simp [k0, k2, k3, Sm.rows]
  | some t =>
   have gt := g2.trans (takes_some g2.good ho).2.2.1
   have c3 := gt.cnt
   have h4 := fun r => pblock_eq hn (stmtP_to n) hst hless hi gt.good (Nat.le_trans gt.len hl) (by omega) (by omega) 1 (by omega) (by omega) r
   dsimp only at hrec
   simp only [hrec] at h4
   simp [r_pp_program_1, k0, k2, k3, h1, h2, h3, h4, Hp_len]
   refine hfin _ _ ?_ ?_ ?_ ?_ ?_ <;> simp [k0, k2, k3]) n [] s φ (by simp; omega) hs hl hl h0 hb hA
 subst hz
 simp [c_pp_program, Hp_len]
 refine hloop _ ?_ ?_ ?_ <;> simp
theorem wordsG_wx (total : Nat) : ∀ (f : Nat) (l : List UInt8) (acc : List (List V)), l.length < f → (wordsG total f l acc).2.1 = 0 →
  ∃ m : List Wx, (wordsG total f l acc).1 = acc ++ wrows m ∧ m ≠ [] ∧ (∀ h, (m.getLast h).kind = 0) ∧ m.length ≤ f
 | 0, l, acc, h, _ => by omega
 | f + 1, l, acc, h, h0 => by
  unfold wordsG at h0 ⊢
  by_cases hl : l = []
  ·rw [if_pos hl]
   exact ⟨[⟨0, [], 0, total⟩], rfl, by simp, fun _ => rfl, by simp⟩
  ·rw [if_neg hl] at h0 ⊢
   obtain ⟨c, r, rfl⟩ : ∃ c r, l = c :: r := by
    cases l with
    | nil => exact absurd rfl hl
    | cons c r => exact ⟨c, r, rfl⟩
   cases ho : oneS (c :: r) with
   | inr e =>
    rw [ho] at h0
    exact absurd h0 (oneS_err c r e ho)
   | inl p =>
    obtain ⟨w, n⟩ := p
    obtain ⟨n1, n2⟩ := oneS_len c r w n ho
    rw [ho] at h0
    dsimp only at h0 ⊢
    have hlt : (skipG false ((c :: r).drop n)).length < f := by
     have h1 := skipG_le false ((c :: r).drop n)
     rw [List.length_drop, List.length_cons] at h1
     rw [List.length_cons] at h
     omega
    obtain ⟨m, hm, hne, hlast, hml⟩ := wordsG_wx total f (skipG false ((c :: r).drop n)) _ hlt h0
    refine ⟨⟨w.kind, w.s, w.n, ((total - (c :: r).length : Nat) : Int)⟩ :: m, ?_, by simp, fun hh => ?_, by simp; omega⟩
    ·rw [hm, List.append_assoc]
     rfl
    ·rw [List.getLast_cons hne]
     exact hlast hne
theorem words_good (s : List UInt8) (h0 : (wordsS s).2.1 = 0) : ∃ l : List Wx, (wordsS s).1 = wrows l ∧ PS.good ⟨l, 0, 0, 0, false⟩ := by
 unfold wordsS at h0 ⊢
 by_cases h : 4096 < s.length
 ·rw [if_pos h] at h0
  exact absurd (show (14 : Int) = 0 from h0) (by omega)
 ·rw [if_neg h] at h0 ⊢
  have h1 := skipG_le false s
  obtain ⟨m, hm, hne, hlast, hml⟩ := wordsG_wx s.length (s.length + 1) (skipG false s) [] (by omega) h0
  exact ⟨m, by rw [hm]; rfl, hne, hlast, fun hc => absurd ⟨rfl, rfl⟩ hc, by show m.length ≤ 4097; omega⟩
end Go.AM.Spec
