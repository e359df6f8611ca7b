/-
 The parts of this proof that speak of the functions one by one.
-/
import Derived.Test.YtfbnodahmmlfdaaGreatDoorSpecPr
import Derived.Test.YtfbnodahmmlfdaaGreatDoorSpecTr
import Derived.Test.YtfbnodahmmlfdaaGreatDoorSpecTx
namespace Go.AM.Spec
set_option linter.unusedVariables false
set_option linter.unusedSimpArgs false
set_option maxHeartbeats 4000000
set_option maxRecDepth 10000
theorem closed_all : ((List.range 7).all fun (a : Nat) => (List.range 2).all fun (i : Nat) => (List.range 14).all fun (b : Nat) =>
  match run tbl noExt 30 n_flotsamref18_closed [.int .i64 ((a : Int) + 8), .int .i64 (i : Int), .int .i64 ((b : Int) + 1)] [] with
  | some (.bool v, []) => v == decide (strong ((b : Int) + 1) < leastOf ((a : Int) + 8) i)
  | _ => false) = true := by kernel_rfl
theorem closed_eq (op part : Int) (i : Nat) (h1 : 8 ≤ op) (h2 : op ≤ 14) (hi : i < 2) (p1 : 1 ≤ part) (p2 : part ≤ 14) : eval tbl noExt n_flotsamref18_closed [.int .i64 op, .int .i64 (i : Int), .int .i64 part] [] = some (.bool (decide (strong part < leastOf op i)), []) := by
 obtain ⟨a, rfl⟩ : ∃ a : Nat, op = (a : Int) + 8 := ⟨(op - 8).toNat, by omega⟩
 obtain ⟨b, rfl⟩ : ∃ b : Nat, part = (b : Int) + 1 := ⟨(part - 1).toNat, by omega⟩
 have h := List.all_eq_true.1 closed_all a (List.mem_range.2 (by omega))
 have h := List.all_eq_true.1 h i (List.mem_range.2 hi)
 have h := List.all_eq_true.1 h b (List.mem_range.2 (by omega))
 split at h
 ·rename_i v e
  simp only [beq_iff_eq] at h
  rw [← h]
  exact (eval_iff ..).2 ⟨30, e⟩
 ·cases h
def RePr (e : Ex) : Prop := ∀ H, eval tbl noExt n_flotsamref18_expr [.agg e.cells] H = some (.str e.bare, H)
theorem ex_op_range {e : Ex} {d : Nat} (h : e.ok d = true) : 1 ≤ e.op ∧ e.op ≤ 14 := by
 obtain ⟨op, n, s, x⟩ := e
 rw [Ex.ok] at h
 cases hpo : parts op with
 | none => rw [hpo] at h; cases h
 | some k => exact ⟨(parts_some hpo).1, (parts_some hpo).2.1⟩
theorem dsub_eq (op n : Int) (s : List UInt8) (x : List Ex) (i : Nat) (hi : i < 2) (h1 : 8 ≤ op) (h2 : op ≤ 14) (y : Ex) (hy : x[i]? = some y) (p1 : 1 ≤ y.op) (p2 : y.op ≤ 14) (he : RePr y) (hl : y.bare.length ≤ 100000000) :
  eval tbl noExt n_flotsamref18_sub [.agg (Ex.mk op n s x).cells, .int .i64 i] [] = some (.str (par (decide (strong y.op < leastOf op i)) y.bare), []) := by
 have hc := closed_eq op y.op i h1 h2 hi p1 p2
 have he0 := he []
 have hil : i < x.length := by
  rcases Nat.lt_or_ge i x.length with h | h
  ·exact h
  ·rw [List.getElem?_eq_none h] at hy; cases hy
 have hrl : (Ex.rows x).length = x.length := by rw [Ex.rows_eq]; simp
 have hg : ∀ h : i < (Ex.rows x).length, (Ex.rows x)[i] = y.cells := fun _ => by
  simp [Ex.rows_eq]
  rw [List.getElem?_eq_getElem hil] at hy
  rw [Option.some.inj hy]
 have hcells : (Ex.mk op n s x).cells = [.int .i64 op, .int .i64 n, .str s, .sl 4 (Ex.rows x)] := rfl
 generalize decide (strong y.op < leastOf op i) = B at hc ⊢
 obtain ⟨yo, yn, ys, yx⟩ := y
 have hyc : (Ex.mk yo yn ys yx).cells = [.int .i64 yo, .int .i64 yn, .str ys, .sl 4 (Ex.rows yx)] := rfl
 rw [hyc] at hg he0
 simp only [Ex.op] at hc
 have b1 : 1 + (Ex.mk yo yn ys yx).bare.length < 4611686018427387904 := by omega
 have b2 : (Ex.mk yo yn ys yx).bare.length + 1 + 1 < 4611686018427387904 := by omega
 have lc := lt_flotsamref18_closed
 have le := lt_flotsamref18_expr
 rw [eval_M rfl rfl t_flotsamref18_sub rfl]
 rw [hcells]
 cases B with
 | true => simp [c_flotsamref18_sub, hg, hrl, hil, lc, hc, le, he0, par, b1, b2]
 | false => simp [c_flotsamref18_sub, hg, hrl, hil, lc, hc, le, he0, par]
theorem wr0 : IntKind.i64.wrap 0 = 0 := w64 (by omega) (by omega)
theorem wr1 : IntKind.i64.wrap 1 = 1 := w64 (by omega) (by omega)
theorem wr2 : IntKind.i64.wrap 2 = 2 := w64 (by omega) (by omega)
theorem wr3 : IntKind.i64.wrap 3 = 3 := w64 (by omega) (by omega)
theorem wr4 : IntKind.i64.wrap 4 = 4 := w64 (by omega) (by omega)
theorem wr5 : IntKind.i64.wrap 5 = 5 := w64 (by omega) (by omega)
theorem ex_under (e : Ex) : V.underAll 0 e.cells = true := by cases e; simp [Ex.cells]
theorem refExpr_pr (op n : Int) (s : List UInt8) (x : List Ex) (d : Nat) (hok : (Ex.mk op n s x).ok d = true) (ht : (Ex.mk op n s x).txt) (hsz : (Ex.mk op n s x).size ≤ 20000) (hx : ∀ e ∈ x, RePr e) : RePr (.mk op n s x) := by
 intro H
 have hbare := bare_length _ ht
 simp only [Ex.txt] at ht
 have hcells : (Ex.mk op n s x).cells = [.int .i64 op, .int .i64 n, .str s, .sl 4 (Ex.rows x)] := rfl
 rw [Ex.ok] at hok
 cases hpo : parts op with
 | none => rw [hpo] at hok; cases hok
 | some k =>
 rw [hpo] at hok
 simp only [Bool.and_eq_true, decide_eq_true_eq] at hok
 obtain ⟨⟨⟨hd, hxl⟩, hleaf⟩, hoks⟩ := hok
 rw [Ex.oks_all] at hoks
 have hxo : ∀ e ∈ x, 1 ≤ e.op ∧ e.op ≤ 14 := fun e he => ex_op_range (List.all_eq_true.1 hoks e he)
 have hrl : (Ex.rows x).length = x.length := by rw [Ex.rows_eq]; simp
 rw [eval_M rfl rfl t_flotsamref18_expr rfl]
 rw [hcells]
 by_cases h1 : op = 1
 ·subst h1
  have hdg := refDigits_eq n.natAbs n [] (Nat.le_refl _) (by simp [leafOk] at hleaf; omega) (by simp [leafOk] at hleaf; omega)
  simp [c_flotsamref18_expr, get0, hdg, Ex.bare, exBody]
 by_cases h2 : op = 2
 ·subst h2
  have hqt := refQuote_eq s (by omega) []
  simp [c_flotsamref18_expr, get0, hqt, Ex.bare, exBody]
 by_cases h3 : op = 3
 ·subst h3
  by_cases hn : n = 1
  ·simp [c_flotsamref18_expr, get0, hn, Ex.bare, exBody, boolT]
  ·simp [c_flotsamref18_expr, get0, hn, Ex.bare, exBody, boolT]
 by_cases h4 : op = 4
 ·subst h4
  simp [c_flotsamref18_expr, get0, Ex.bare, exBody]
 obtain ⟨o1, o2, hk⟩ := parts_some hpo
 rw [if_neg (by omega)] at hk
 by_cases h58 : op ≤ 8
 ·rw [if_pos h58] at hk
  subst hk
  match x, hxl with
  | [a], _ =>
  have ha := (Ex.strips a).1
  have ha2 := (Ex.strips a).2
  simp only [allStrip] at ha2
  have hbl := bare_length a ht.2.1
  have hsa : a.size ≤ 20000 := by simp only [Ex.size, Ex.sizes] at hsz; omega
  have hpl := par_length (decide (strong a.op < leastOf op 0)) a.bare
  have he0 := hx a (by simp) []
  obtain ⟨oa1, oa2⟩ := hxo a (by simp)
  by_cases h8 : op = 8
  ·subst h8
   have hS := dsub_eq 8 n s [a] 0 (by omega) (by omega) (by omega) a rfl oa1 oa2 (hx a (by simp)) (by omega)
   rw [hcells] at hS
   simp only [Ex.rows] at hS ⊢
   have b1 : 4 + (par (decide (strong a.op < leastOf 8 0)) a.bare).length < 4611686018427387904 := by omega
   simp at hS
   simp [c_flotsamref18_expr, get0, hS, Ex.bare, Ex.bares, exBody, b1]
  ·have hl6 := call_length op
   have hno : ¬ op = 1 ∧ ¬ op = 2 ∧ ¬ op = 3 ∧ ¬ op = 4 ∧ ¬ op = 8 := ⟨h1, h2, h3, h4, h8⟩
   have h567 : op = 5 ∨ op = 6 ∨ op = 7 := by omega
   have b0 : a.bare.length < 4611686018427387904 - 20 := by omega
   rcases h567 with rfl | rfl | rfl
   all_goals
    have b1 : 7 + a.bare.length < 4611686018427387904 := by omega
    have b2 : 5 + a.bare.length < 4611686018427387904 := by omega
    have b3 : a.bare.length + 7 + 1 < 4611686018427387904 := by omega
    have b4 : a.bare.length + 5 + 1 < 4611686018427387904 := by omega
    simp [c_flotsamref18_expr, get0, Ex.rows, he0, ha, ha2, List.take_of_length_le, Ex.bare, Ex.bares, exBody, callT, leastOf, par, b1, b2, b3, b4, wr0, wr1, wr2, ex_under]
 ·rw [if_neg h58] at hk
  subst hk
  match x, hxl with
  | [a, b], _ =>
  have hno : ¬ op = 8 := by omega
  have hbla := bare_length a ht.2.1
  have hblb := bare_length b ht.2.2.1
  have hsa : a.size + b.size ≤ 20000 := by simp only [Ex.size, Ex.sizes] at hsz; omega
  have hpl := par_length (decide (strong a.op < leastOf op 0)) a.bare
  have hpl2 := par_length (decide (strong b.op < leastOf op 1)) b.bare
  obtain ⟨oa1, oa2⟩ := hxo a (by simp)
  obtain ⟨ob1, ob2⟩ := hxo b (by simp)
  have hS := dsub_eq op n s [a, b] 0 (by omega) (by omega) (by omega) a rfl oa1 oa2 (hx a (by simp)) (by omega)
  have hS2 := dsub_eq op n s [a, b] 1 (by omega) (by omega) (by omega) b rfl ob1 ob2 (hx b (by simp)) (by omega)
  rw [hcells] at hS hS2
  simp only [Ex.rows] at hS hS2 ⊢
  simp at hS hS2
  generalize hA : par (decide (strong a.op < leastOf op 0)) a.bare = A at hS hpl
  generalize hB : par (decide (strong b.op < leastOf op 1)) b.bare = B at hS2 hpl2
  have hcase : op = 9 ∨ op = 10 ∨ op = 11 ∨ op = 12 ∨ op = 13 ∨ op = 14 := by omega
  rcases hcase with rfl | rfl | rfl | rfl | rfl | rfl
  all_goals
   simp [c_flotsamref18_expr, get0, hS, hS2, Ex.bare, Ex.bares, exBody, signT, wr0, wr1, wr2, wr3, wr4, wr5, hA, hB]
   iterate 6 (try (rw [if_pos (by omega)]; simp [get0, hS, hS2, wr0, wr1, wr2, wr3, wr4, wr5, hA, hB]))
theorem refExpr_all : ∀ (m : Nat) (e : Ex), e.size ≤ m → m ≤ 20000 → ∀ d, e.ok d = true → e.txt → RePr e := by
 intro m
 induction m with
 | zero => intro e h; cases e; simp only [Ex.size] at h; omega
 | succ m ih =>
  intro e h hm d hok ht
  obtain ⟨op, n, s, x⟩ := e
  refine refExpr_pr op n s x d hok ht (by omega) (fun e he => ?_)
  simp only [Ex.size] at h
  have hok' := hok
  rw [Ex.ok] at hok'
  split at hok'
  ·cases hok'
  ·simp only [Bool.and_eq_true] at hok'
   have h2 := hok'.2
   rw [Ex.oks_all] at h2
   have := Ex.sizes_mem he
   exact ih e (by omega) (by omega) (d - 1) (List.all_eq_true.1 h2 e he) (ex_txts_mem ht.2 e he)
@[simp] theorem wq0 : IntKind.i64.wrap 0 = 0 := w64 (by omega) (by omega)
@[simp] theorem wq1 : IntKind.i64.wrap 1 = 1 := w64 (by omega) (by omega)
@[simp] theorem wq2 : IntKind.i64.wrap 2 = 2 := w64 (by omega) (by omega)
@[simp] theorem wq3 : IntKind.i64.wrap 3 = 3 := w64 (by omega) (by omega)
@[simp] theorem wq4 : IntKind.i64.wrap 4 = 4 := w64 (by omega) (by omega)
@[simp] theorem wq5 : IntKind.i64.wrap 5 = 5 := w64 (by omega) (by omega)
@[simp] theorem wq6 : IntKind.i64.wrap 6 = 6 := w64 (by omega) (by omega)
@[simp] theorem wq7 : IntKind.i64.wrap 7 = 7 := w64 (by omega) (by omega)
@[simp] theorem wq8 : IntKind.i64.wrap 8 = 8 := w64 (by omega) (by omega)
@[simp] theorem wq9 : IntKind.i64.wrap 9 = 9 := w64 (by omega) (by omega)
@[simp] theorem wq10 : IntKind.i64.wrap 10 = 10 := w64 (by omega) (by omega)
@[simp] theorem wq11 : IntKind.i64.wrap 11 = 11 := w64 (by omega) (by omega)
@[simp] theorem wq12 : IntKind.i64.wrap 12 = 12 := w64 (by omega) (by omega)
@[simp] theorem wq13 : IntKind.i64.wrap 13 = 13 := w64 (by omega) (by omega)
@[simp] theorem wq14 : IntKind.i64.wrap 14 = 14 := w64 (by omega) (by omega)
@[simp] theorem wq15 : IntKind.i64.wrap 15 = 15 := w64 (by omega) (by omega)
@[simp] theorem wq16 : IntKind.i64.wrap 16 = 16 := w64 (by omega) (by omega)
@[simp] theorem wq17 : IntKind.i64.wrap 17 = 17 := w64 (by omega) (by omega)
theorem rep_succ (t : Nat) : tabT t ++ [9] = tabT (t + 1) := by
 unfold tabT
 induction t with
 | zero => rfl
 | succ t ih => simp only [Go.Lib.repeatL, List.append_assoc] at ih ⊢; rw [ih]
theorem tabs_loop (t : Nat) (ht : t ≤ 1000) (H : Heap) : ∀ (r j : Nat) (φ : Fr), j + r = t → Fr.get φ 0 = .int .i64 t → Fr.get φ 3 = .str (tabT j) → Fr.get φ 4 = .int .i64 j →
  M (eval tbl noExt) [.code l_flotsamref18_tabs_0, .blk 0, .code r_flotsamref18_tabs_0, .fin [.t 2] H.length] φ H = some (.str (tabT t), H) := by
 intro r
 induction r with
 | zero =>
  intro j φ hj h0 h3 h4
  have hlt : ¬ (j : Int) < t := by omega
  have : j = t := by omega
  subst this
  rw [l_flotsamref18_tabs_0, M_loop, ← l_flotsamref18_tabs_0]
  simp [b_flotsamref18_tabs_0, r_flotsamref18_tabs_0, h0, h3, h4, hlt]
 | succ r ih =>
  intro j φ hj h0 h3 h4
  have hlt : (j : Int) < t := by omega
  have hlt2 : j < t := by omega
  have hl := tabT_length j
  have e2 : IntKind.i64.wrap ((j : Int) + 1) = ((j + 1 : Nat) : Int) := by rw [w64] <;> omega
  have hb : j + 1 < 4611686018427387904 := by omega
  rw [l_flotsamref18_tabs_0, M_loop, ← l_flotsamref18_tabs_0]
  simp [b_flotsamref18_tabs_0, h0, h3, h4, hlt, hlt2, hl, hb, rep_succ, e2]
  exact ih (j + 1) _ (by omega) (by simp [h0]) (by simp) (by simp)
theorem tabs_eq (t : Nat) (ht : t ≤ 1000) (H : Heap) : eval tbl noExt n_flotsamref18_tabs [.int .i64 t] H = some (.str (tabT t), H) := by
 rw [eval_M rfl rfl t_flotsamref18_tabs rfl]
 simp [c_flotsamref18_tabs]
 exact tabs_loop t ht H t 0 _ (by omega) (by simp) (by simp; rfl) (by simp)
def blkR (l : List Sm) (t : Nat) : List UInt8 := [123, 10] ++ Sm.texts l (t + 1) ++ tabT t ++ [125]
def RsPr (e : Sm) : Prop := ∀ (H : Heap) (t : Nat), e.ok t = true → eval tbl noExt n_flotsamref18_stmt [.agg e.cells, .int .i64 t] H = some (.str (e.text t), H)
def RbPr (l : List Sm) : Prop := ∀ (H : Heap) (t : Nat), t ≤ 8 → Sm.oks l (t + 1) = true → eval tbl noExt n_flotsamref18_block [.sl 7 (Sm.rows l), .int .i64 t] H = some (.str (blkR l t), H)
theorem sm_txts_drop' {l : List Sm} (ht : Sm.txts l) {j : Nat} {e : Sm} (h : l.drop j = e :: l.drop (j + 1)) : e.txt ∧ Sm.txts (l.drop (j + 1)) := by
 have : Sm.txts (l.drop j) := by
  have h := List.take_append_drop j l
  rw [← h] at ht
  exact (Sm.txts_append.1 ht).2
 rw [h] at this
 exact this
theorem sm_under (e : Sm) : V.underAll 0 e.cells = true := by cases e; simp [Sm.cells]
theorem dblock_loop (l : List Sm) (hl : l.length ≤ 20000) (ht : Sm.txts l) (hx : ∀ e ∈ l, RsPr e) (t : Nat) (ht8 : t ≤ 8) (H : Heap) :
  ∀ (r j : Nat) (acc : List UInt8) (φ : Fr), j + r = l.length → acc ++ Sm.texts (l.drop j) (t + 1) ++ (tabT t ++ [125]) = blkR l t → Sm.oks (l.drop j) (t + 1) = true → acc.length + 1600 * Sm.sizes (l.drop j) ≤ 70000000 →
   Fr.get φ 0 = .sl 7 (Sm.rows l) → Fr.get φ 1 = .int .i64 t → Fr.get φ 5 = .str acc → Fr.get φ 6 = .int .i64 j →
   M (eval tbl noExt) [.code l_flotsamref18_block_0, .blk 0, .code r_flotsamref18_block_0, .fin [.t 4] H.length] φ H = some (.str (blkR l t), H) := by
 intro r
 induction r with
 | zero =>
  intro j acc φ hj hacc hts hb h0 h1 h5 h6
  have hrl : (Sm.rows l).length = l.length := by rw [Sm.rows_eq]; simp
  have hlt : ¬ (j : Int) < l.length := by omega
  have hlt2 : ¬ j < l.length := by omega
  rw [List.drop_eq_nil_of_le (by omega)] at hacc
  simp only [Sm.texts, List.append_nil] at hacc
  have htl := tabT_length t
  have hT := tabs_eq t (by omega) []
  have b1 : acc.length + t < 4611686018427387904 := by omega
  have b2 : acc.length + t + 1 < 4611686018427387904 := by omega
  have b3 : acc.length + (t + 1) < 4611686018427387904 := by omega
  rw [← hacc]
  rw [l_flotsamref18_block_0, M_loop, ← l_flotsamref18_block_0]
  simp [b_flotsamref18_block_0, r_flotsamref18_block_0, h0, h1, h5, h6, hlt, hlt2, hrl, hT, htl, b1, b2, b3]
 | succ r ih =>
  intro j acc φ hj hacc hts hb h0 h1 h5 h6
  have hlt : j < l.length := by omega
  have hlt' : (j : Int) < l.length := by omega
  obtain ⟨e, he⟩ : ∃ e, e = l[j] := ⟨_, rfl⟩
  have hmem : e ∈ l := by rw [he]; exact List.getElem_mem _
  have hrl : (Sm.rows l).length = l.length := by rw [Sm.rows_eq]; simp
  have hg : ∀ h : j < (Sm.rows l).length, (Sm.rows l)[j] = e.cells := fun _ => by simp [Sm.rows_eq, he]
  have hdr : l.drop j = e :: l.drop (j + 1) := by rw [List.drop_eq_getElem_cons hlt, ← he]
  have hte := sm_txts_drop' ht hdr
  rw [hdr] at hacc hb hts
  simp only [Sm.sizes] at hb
  simp only [Sm.oks, Bool.and_eq_true] at hts
  simp only [Sm.texts] at hacc
  have htl := text_len e (t + 1) hte.1 hts.1
  have hst := hx e hmem [] (t + 1) hts.1
  have hs7 := (Sm.strips e).1
  have hs8 := (Sm.strips e).2
  simp only [allStrip] at hs8
  have e2 : IntKind.i64.wrap ((j : Int) + 1) = ((j + 1 : Nat) : Int) := by rw [w64] <;> omega
  have et : IntKind.i64.wrap ((t : Int) + 1) = ((t + 1 : Nat) : Int) := by rw [w64] <;> omega
  have htb := tabT_length (t + 1)
  have hT := tabs_eq (t + 1) (by omega) []
  simp at et hT hst
  have b1 : acc.length + (t + 1) < 4611686018427387904 := by omega
  have b2 : acc.length + (t + 1 + (e.text (t + 1)).length) < 4611686018427387904 := by omega
  have b3 : acc.length + (t + 1 + ((e.text (t + 1)).length + 1)) < 4611686018427387904 := by omega
  have b4 : acc.length + (t + 1) + (e.text (t + 1)).length < 4611686018427387904 := by omega
  have b5 : acc.length + (t + 1 + (e.text (t + 1)).length) + 1 < 4611686018427387904 := by omega
  rw [l_flotsamref18_block_0, M_loop, ← l_flotsamref18_block_0]
  simp [b_flotsamref18_block_0, h0, h1, h5, h6, hlt, hlt', hrl, hg, hs7, hs8, List.take_of_length_le, sm_under, hT, hst, htb, e2, et, b1, b2, b3, b4, b5]
  exact ih (j + 1) (acc ++ (tabT (t + 1) ++ (e.text (t + 1) ++ [10]))) _ (by omega) (by rw [← hacc]; simp) hts.2 (by simp; omega) (by simp [h0]) (by simp [h1]) (by simp) (by simp)
theorem rblock_pr (l : List Sm) (hl : l.length ≤ 20000) (ht : Sm.txts l) (hx : ∀ e ∈ l, RsPr e) (hsz : Sm.sizes l ≤ 20000) : RbPr l := by
 intro H t ht8 hts
 rw [eval_M rfl rfl t_flotsamref18_block rfl]
 simp [c_flotsamref18_block]
 exact dblock_loop l hl ht hx t ht8 H l.length 0 [123, 10] _ (by omega) (by simp [blkR]) (by simpa using hts) (by simp; omega) (by simp) (by simp) (by simp) (by simp)
theorem rstmt_loop (H : Heap) (op n : Int) (s : List UInt8) (l : List Ex) (b c : List Sm) (g : Bool) (hl : l.length ≤ 20000) (ht : Ex.txts l) (hx : ∀ e ∈ l, RePr e) (X : List UInt8) :
  ∀ (r j : Nat) (acc : List UInt8) (φ : Fr), j + r = l.length → acc ++ exsT (decide (j = 0)) (l.drop j) = X → acc.length + 1410 * Ex.sizes (l.drop j) ≤ 80000000 →
   Fr.get φ 2 = .ptr H.length 0 → Fr.get φ 6 = .str acc → Fr.get φ 7 = .int .i64 j →
   M (eval tbl noExt) [.code l_flotsamref18_stmt_0, .blk 1, .code r_flotsamref18_stmt_0, .fin [.t 4] H.length] φ (H ++ [some (Sm.mk op s n l b c g).cells]) = some (.str (X ++ [59]), H) := by
 have hcells : (Sm.mk op s n l b c g).cells = [.int .i64 op, .str s, .int .i64 n, .sl 4 (Ex.rows l), .sl 7 (Sm.rows b), .sl 7 (Sm.rows c), .bool g] := rfl
 rw [hcells]
 have hrl : (Ex.rows l).length = l.length := by rw [Ex.rows_eq]; simp
 intro r
 induction r with
 | zero =>
  intro j acc φ hj hacc hb h2 h6 h7
  have hlt : ¬ (j : Int) < l.length := by omega
  have hlt2 : ¬ j < l.length := by omega
  rw [List.drop_eq_nil_of_le (by omega)] at hacc
  simp [exsT] at hacc
  have b1 : acc.length + 1 < 4611686018427387904 := by omega
  rw [l_flotsamref18_stmt_0, M_loop, ← l_flotsamref18_stmt_0, ← hacc]
  simp [b_flotsamref18_stmt_0, r_flotsamref18_stmt_0, get0, h2, h6, h7, hlt, hlt2, hrl, b1]
 | succ r ih =>
  intro j acc φ hj hacc hb h2 h6 h7
  have hlt : j < l.length := by omega
  have hlt' : (j : Int) < l.length := by omega
  obtain ⟨e, he⟩ : ∃ e, e = l[j] := ⟨_, rfl⟩
  have hmem : e ∈ l := by rw [he]; exact List.getElem_mem _
  have hg : ∀ h : j < (Ex.rows l).length, (Ex.rows l)[j] = e.cells := fun _ => by simp [Ex.rows_eq, he]
  have hte : e.txt ∧ Ex.txts (l.drop (j + 1)) := by
   have : Ex.txts (l.drop j) := by
    have h := List.take_append_drop j l
    rw [← h] at ht
    exact (Ex.txts_append.1 ht).2
   rw [List.drop_eq_getElem_cons hlt, ← he] at this
   exact this
  rw [List.drop_eq_getElem_cons hlt, ← he] at hacc hb
  simp only [Ex.sizes] at hb
  have hbl := bare_length e hte.1
  have hs1 : 1 ≤ e.size := by cases e; simp only [Ex.size]; omega
  have hs7 := (Ex.strips e).1
  have hs8 := (Ex.strips e).2
  simp only [allStrip] at hs8
  have he0 := hx e hmem []
  have e2 : IntKind.i64.wrap ((j : Int) + 1) = ((j + 1 : Nat) : Int) := by rw [w64] <;> omega
  have b1 : acc.length + 1 < 4611686018427387904 := by omega
  have b2 : acc.length + 2 < 4611686018427387904 := by omega
  have b3 : acc.length + (e.bare.length + 1) < 4611686018427387904 := by omega
  have b4 : acc.length + (e.bare.length + 1 + 1) < 4611686018427387904 := by omega
  have b5 : acc.length + 1 + e.bare.length < 4611686018427387904 := by omega
  have b6 : acc.length + 2 + e.bare.length < 4611686018427387904 := by omega
  have b7 : acc.length + (1 + e.bare.length) < 4611686018427387904 := by omega
  have b8 : acc.length + (2 + e.bare.length) < 4611686018427387904 := by omega
  rw [l_flotsamref18_stmt_0, M_loop, ← l_flotsamref18_stmt_0]
  by_cases hj0 : j = 0
  ·subst hj0
   simp [b_flotsamref18_stmt_0, get0, h2, h6, h7, hlt, hlt', hrl, hg, hs7, hs8, List.take_of_length_le, ex_under, he0, wr1, b1, b2, b3, b4, b5, b6, b7, b8]
   exact ih 1 (acc ++ 32 :: e.bare) _ (by omega) (by rw [← hacc]; simp [exsT]) (by simp only [Nat.zero_add] at hb; simp only [List.length_append, List.length_cons]; omega) (by simp [h2]) (by simp) (by simp)
  ·simp [b_flotsamref18_stmt_0, get0, h2, h6, h7, hlt, hlt', hrl, hg, hs7, hs8, List.take_of_length_le, ex_under, he0, e2, hj0, b1, b2, b3, b4, b5, b6, b7, b8]
   exact ih (j + 1) (acc ++ 44 :: 32 :: e.bare) _ (by omega) (by rw [← hacc]; simp [exsT, hj0]) (by simp; omega) (by simp [h2]) (by simp) (by simp)
theorem keyT_vals : (List.range 18).map (fun (j : Nat) => keyT ((j : Int) + 1)) = [[99, 114, 101, 97, 116, 101], [109, 107, 100, 105, 114], [119, 114, 105, 116, 101], [97, 112, 112, 101, 110, 100], [116, 114, 117, 110, 99, 97, 116, 101], [114, 101, 110, 97, 109, 101], [117, 110, 108, 105, 110, 107], [102, 115, 121, 110, 99], [102, 100, 97, 116, 97, 115, 121, 110, 99], [115, 121, 110, 99, 100, 105, 114], [98, 97, 114, 114, 105, 101, 114], [108, 101, 116], [105, 102], [114, 101, 112, 101, 97, 116], [99, 97, 108, 108], [116, 120, 110], [114, 101, 112, 108, 97, 121], [97, 115, 115, 101, 114, 116]] := by kernel_rfl
theorem k12 : keyT 12 = [108, 101, 116] := congrArg (fun l => l.getD 11 []) keyT_vals
theorem k13 : keyT 13 = [105, 102] := congrArg (fun l => l.getD 12 []) keyT_vals
theorem k14 : keyT 14 = [114, 101, 112, 101, 97, 116] := congrArg (fun l => l.getD 13 []) keyT_vals
theorem k15 : keyT 15 = [99, 97, 108, 108] := congrArg (fun l => l.getD 14 []) keyT_vals
theorem k16 : keyT 16 = [116, 120, 110] := congrArg (fun l => l.getD 15 []) keyT_vals
theorem rstmt_pr (op n : Int) (s : List UInt8) (e : List Ex) (b c : List Sm) (g : Bool) (hs : s.length ≤ 300) (hel : e.length ≤ 20000) (hcl : c.length ≤ 20000) (het : Ex.txts e) (hbt : Sm.txts b) (hct : Sm.txts c) (hsz : (Sm.mk op s n e b c g).size ≤ 20000) (hex : ∀ y ∈ e, RePr y) (hb : RbPr b) (hc : RbPr c) : RsPr (.mk op s n e b c g) := by
 intro H t hok
 have hcells : (Sm.mk op s n e b c g).cells = [.int .i64 op, .str s, .int .i64 n, .sl 4 (Ex.rows e), .sl 7 (Sm.rows b), .sl 7 (Sm.rows c), .bool g] := rfl
 have hcrl : (Sm.rows c).length = c.length := by rw [Sm.rows_eq]; simp
 obtain ⟨ht8, hsh, _, hob, hoc⟩ := Sm.ok_parts hok
 simp only [Sm.size] at hsz
 unfold shapeOk at hsh
 cases hxs : exprs op with
 | none => rw [hxs] at hsh; cases hsh
 | some k =>
 rw [hxs] at hsh
 simp only [Bool.and_eq_true, decide_eq_true_eq, Bool.or_eq_true] at hsh
 obtain ⟨hk, _, hn0, hn16, hn14, hg16, hb0, hc0, hoe⟩ := hsh
 obtain ⟨h1, h18⟩ := exprs_some hxs
 have hbb := hb [] t ht8 hob
 have hcc := hc [] t ht8 hoc
 have tl := tabT_length t
 have lb : (blkR b t).length ≤ 1500 * Sm.sizes b + 20 := by
  have := texts_len b (t + 1) hbt hob
  simp only [blkR, List.length_append, List.length_cons, List.length_nil, tl]; omega
 have lc : (blkR c t).length ≤ 1500 * Sm.sizes c + 20 := by
  have := texts_len c (t + 1) hct hoc
  simp only [blkR, List.length_append, List.length_cons, List.length_nil, tl]; omega
 have htn := text_length n
 have hdg := refDigits_eq n.natAbs n [] (Nat.le_refl _) (by omega) (by omega)
 have lex := lt_flotsamref18_expr
 have lbl := lt_flotsamref18_block
 rw [eval_M rfl rfl t_flotsamref18_stmt rfl]
 rw [hcells]
 by_cases h12 : op = 12
 ·subst h12
  simp [exprs] at hxs
  subst hxs
  match e, hk with
  | [a], _ =>
  have hs7 := (Ex.strips a).1
  have hs8 := (Ex.strips a).2
  simp only [allStrip] at hs8
  have he0 := hex a (by simp) []
  have hbl := bare_length a het.1
  have hsa : a.size ≤ 20000 := by simp only [Ex.sizes] at hsz; omega
  simp [c_flotsamref18_stmt, get0, wr0, Ex.rows, hs7, hs8, List.take_of_length_le, ex_under, lex, he0, Sm.text, k12, midT, exsT]
  iterate 6 (try (rw [if_pos (by omega)]; simp [get0, wr0, hs7, hs8, List.take_of_length_le, ex_under, lex, he0]))
 by_cases h15 : op = 15
 ·subst h15
  simp [exprs] at hxs
  subst hxs
  match e, hk with
  | [], _ =>
  simp [c_flotsamref18_stmt, get0, wr0, Sm.text, k15, midT, exsT]
  iterate 6 (try (rw [if_pos (by omega)]; simp [get0]))
 by_cases h14 : op = 14
 ·subst h14
  simp [exprs] at hxs
  subst hxs
  match e, hk with
  | [], _ =>
  have hc00 : c = [] := by simpa using hc0
  subst hc00
  have hblk : [32, 123, 10] ++ Sm.texts b (t + 1) ++ tabT t ++ [125] = 32 :: blkR b t := by simp [blkR]
  simp only [Sm.text, hblk]
  simp [c_flotsamref18_stmt, get0, wr0, lbl, hbb, hdg, k14, midT, exsT]
  iterate 6 (try (rw [if_pos (by omega)]; simp [get0, lbl, hbb, hdg]))
 by_cases h13 : op = 13
 ·subst h13
  simp [exprs] at hxs
  subst hxs
  match e, hk with
  | [a], _ =>
  have hs7 := (Ex.strips a).1
  have hs8 := (Ex.strips a).2
  simp only [allStrip] at hs8
  have he0 := hex a (by simp) []
  have hbl := bare_length a het.1
  have hsa : a.size ≤ 20000 := by simp only [Ex.sizes] at hsz; omega
  have hblk : [32, 123, 10] ++ Sm.texts b (t + 1) ++ tabT t ++ [125] = 32 :: blkR b t := by simp [blkR]
  have hblk2 : [32, 123, 10] ++ Sm.texts c (t + 1) ++ tabT t ++ [125] = 32 :: blkR c t := by simp [blkR]
  simp only [Sm.text, hblk, hblk2]
  by_cases hc00 : c.length = 0
  ·simp [c_flotsamref18_stmt, get0, wr0, Ex.rows, hs7, hs8, List.take_of_length_le, ex_under, lex, lbl, hbb, he0, k13, midT, exsT, hc00, hcrl]
   iterate 8 (try (rw [if_pos (by omega)]; simp [get0, wr0, hs7, hs8, List.take_of_length_le, ex_under, lex, lbl, hbb, he0, hc00, hcrl]))
  ·have hc1 : (0 : Int) < c.length := by omega
   simp [c_flotsamref18_stmt, get0, wr0, Ex.rows, hs7, hs8, List.take_of_length_le, ex_under, lex, lbl, hbb, hcc, he0, k13, midT, exsT, hc00, hc1, Nat.pos_of_ne_zero hc00, hcrl]
   iterate 10 (try (rw [if_pos (by omega)]; simp [get0, wr0, hs7, hs8, List.take_of_length_le, ex_under, lex, lbl, hbb, hcc, he0, hc00, hc1, Nat.pos_of_ne_zero hc00, hcrl]))
 by_cases h16 : op = 16
 ·subst h16
  simp [exprs] at hxs
  subst hxs
  match e, hk with
  | [a], _ =>
  have hs7 := (Ex.strips a).1
  have hs8 := (Ex.strips a).2
  simp only [allStrip] at hs8
  have he0 := hex a (by simp) []
  have hbl := bare_length a het.1
  have hsa : a.size ≤ 20000 := by simp only [Ex.sizes] at hsz; omega
  have hblk : [32, 123, 10] ++ Sm.texts b (t + 1) ++ tabT t ++ [125] = 32 :: blkR b t := by simp [blkR]
  simp only [Sm.text, hblk]
  cases g with
  | true =>
   simp [c_flotsamref18_stmt, get0, wr0, Ex.rows, hs7, hs8, List.take_of_length_le, ex_under, lex, lbl, hbb, he0, k16, midT, exsT]
   iterate 10 (try (rw [if_pos (by omega)]; simp [get0, wr0, hs7, hs8, List.take_of_length_le, ex_under, lex, lbl, hbb, he0]))
  | false =>
   simp [c_flotsamref18_stmt, get0, wr0, Ex.rows, hs7, hs8, List.take_of_length_le, ex_under, lex, lbl, hbb, he0, k16, midT, exsT]
   iterate 10 (try (rw [if_pos (by omega)]; simp [get0, wr0, hs7, hs8, List.take_of_length_le, ex_under, lex, lbl, hbb, he0]))
 have htxt : (Sm.mk op s n e b c g).text t = keyT op ++ exsT true e ++ [59] := by simp [Sm.text, midT, h12, h13, h14, h15, h16]
 rw [htxt]
 have hkl := key_length op
 have hloop := fun φ => rstmt_loop H op n s e b c g hel het hex (keyT op ++ exsT true e) e.length 0 (keyT op) φ (by omega) (by simp) (by simp only [List.drop_zero]; omega)
 rw [hcells] at hloop
 have hcase : op = 1 ∨ op = 2 ∨ op = 3 ∨ op = 4 ∨ op = 5 ∨ op = 6 ∨ op = 7 ∨ op = 8 ∨ op = 9 ∨ op = 10 ∨ op = 11 ∨ op = 17 ∨ op = 18 := by omega
 have kv := fun j => congrArg (fun l : List (List UInt8) => l.getD j []) keyT_vals
 have kv1 := kv 0; have kv2 := kv 1; have kv3 := kv 2; have kv4 := kv 3; have kv5 := kv 4; have kv6 := kv 5; have kv7 := kv 6; have kv8 := kv 7; have kv9 := kv 8; have kv10 := kv 9; have kv11 := kv 10; have kv17 := kv 16; have kv18 := kv 17
 clear kv
 simp at kv1 kv2 kv3 kv4 kv5 kv6 kv7 kv8 kv9 kv10 kv11 kv17 kv18
 rcases hcase with rfl | rfl | rfl | rfl | rfl | rfl | rfl | rfl | rfl | rfl | rfl | rfl | rfl
 all_goals
  simp only [kv1, kv2, kv3, kv4, kv5, kv6, kv7, kv8, kv9, kv10, kv11, kv17, kv18] at hloop ⊢
  simp [c_flotsamref18_stmt, get0]
  simp at hloop
  exact hloop _ (by simp) (by simp) (by simp)
theorem rblocks_pr : ∀ (m : Nat) (l : List Sm), Sm.sizes l ≤ m → m ≤ 20000 → Sm.txts l → ∀ d, Sm.oks l d = true → RbPr l := by
 intro m
 induction m with
 | zero =>
  intro l h hm ht d ho
  refine rblock_pr l (by have := Sm.sizes_ge l; omega) ht (fun e he => ?_) (by omega)
  have := Sm.sizes_mem he
  have : 1 ≤ e.size := by cases e; simp only [Sm.size]; omega
  omega
 | succ m ih =>
  intro l h hm ht d ho
  refine rblock_pr l (by have := Sm.sizes_ge l; omega) ht (fun e he => ?_) (by omega)
  have hsz := Sm.sizes_mem he
  have het := sm_txts_mem ht e he
  rw [Sm.oks_all] at ho
  have heo := List.all_eq_true.1 ho e he
  have hsz2 := hsz
  obtain ⟨op, s, n, ee, b, c, g⟩ := e
  obtain ⟨h8, hsh, htx, hob, hoc⟩ := Sm.ok_parts heo
  simp only [Sm.size] at hsz
  simp only [Sm.txt] at het
  unfold shapeOk at hsh
  cases hex : exprs op with
  | none => rw [hex] at hsh; cases hsh
  | some k =>
  rw [hex] at hsh
  simp only [Bool.and_eq_true, decide_eq_true_eq] at hsh
  obtain ⟨hk, _, hn0, hn16, _, _, _, _, hoe⟩ := hsh
  have q1 := Ex.sizes_ge ee
  have q2 := Sm.sizes_ge c
  have hxs : ∀ y ∈ ee, RePr y := fun y hy => by
   rw [Ex.oks_all] at hoe
   have := Ex.sizes_mem hy
   exact refExpr_all 20000 y (by omega) (Nat.le_refl _) 8 (List.all_eq_true.1 hoe y hy) (ex_txts_mem het.2.1 y hy)
  exact rstmt_pr op n s ee b c g het.1 (by omega) (by omega) het.2.1 het.2.2.1 het.2.2.2 (by omega) hxs (ih b (by omega) (by omega) het.2.2.1 _ hob) (ih c (by omega) (by omega) het.2.2.2 _ hoc)
theorem blkT_R (l : List Sm) (t : Nat) : blkT l t = 32 :: blkR l t := by simp [blkT, blkR]
theorem blkR_len (l : List Sm) (t : Nat) (h : Sm.txts l) (ht : t ≤ 8) (ho : Sm.oks l (t + 1) = true) : (blkR l t).length ≤ 1500 * Sm.sizes l + 12 := by
 have := texts_len l (t + 1) h ho
 have h6 := tabT_length t
 unfold blkR
 simp only [List.length_append, List.length_cons, List.length_nil, h6]
 omega
theorem RExpr_eq (e : Ex) (he : e.txt) (hs : e.size ≤ 10000) (H : Heap) : eval tbl noExt n_flotsamref18_Expr [.agg e.cells] H = some (.tup [.str (if e.ok 8 then e.bare else []), .bool (e.ok 8)], H) := by
 have hR := expr_ref 20000 e (by omega) (by omega) he 8 (by omega) []
 have hX := fun h : e.ok 8 = true => refExpr_all 20000 e (by omega) (Nat.le_refl _) 8 h he []
 have hu := ex_under e
 obtain ⟨op, n, s, x⟩ := e
 have hcells : (Ex.mk op n s x).cells = [.int .i64 op, .int .i64 n, .str s, .sl 4 (Ex.rows x)] := rfl
 simp at hR
 rw [hcells] at hR hX ⊢
 rw [eval_M rfl rfl t_flotsamref18_Expr rfl]
 cases hok : (Ex.mk op n s x).ok 8 with
 | false =>
  rw [hok] at hR
  simp [c_flotsamref18_Expr, get0, hR]
 | true =>
  rw [hok] at hR
  have hX := hX hok
  simp [c_flotsamref18_Expr, get0, hR, hX]
section
variable {p : Pg} (hp : p.Fine) (hok : p.ok = true)
include hp hok
theorem rprog_parts : p.procs.length ≤ 16 ∧ p.oracles.length ≤ 16 ∧ (∀ x ∈ p.procs, x.1.length ≤ 300 ∧ Sm.txts x.2 ∧ Sm.oks x.2 1 = true ∧ Sm.sizes x.2 ≤ 19000 ∧ RbPr x.2) ∧
  (∀ x ∈ p.oracles, x.1.length ≤ 300 ∧ x.2.txt ∧ x.2.size ≤ 19000 ∧ RePr x.2) ∧ (Sm.txts p.main ∧ Sm.oks p.main 1 = true ∧ RbPr p.main) ∧ Sm.txts p.recover ∧ Sm.oks p.recover 1 = true ∧ RbPr p.recover := by
 have h := hok
 have hs := hp.size
 obtain ⟨t1, t2, t3, t4⟩ := hp.txt
 simp only [Pg.ok, Bool.and_eq_true, decide_eq_true_eq, List.all_eq_true] at h
 obtain ⟨h1, h2, _, h3, h4, h5, h6⟩ := h
 refine ⟨h1, h2, fun x hx => ?_, fun x hx => ?_, ⟨t2, h5, ?_⟩, t3, h6, ?_⟩
 ·have hb : Sm.sizes x.2 ≤ p.size := by
   have := p.parts_size
   have hm : x.2 ∈ p.parts := by simp only [Pg.parts, List.mem_append, List.mem_map]; exact .inl ⟨x, hx, rfl⟩
   have := sizes_flatten hm
   omega
  exact ⟨(t1 x hx).1, (t1 x hx).2, (h3 x hx).2, by omega, rblocks_pr 20000 _ (by omega) (Nat.le_refl _) (t1 x hx).2 1 (h3 x hx).2⟩
 ·have hb : x.2.size ≤ p.size := by
   have := p.size_eq
   have hm : x.2 ∈ p.exprs := by simp only [Pg.exprs, List.mem_map]; exact ⟨x, hx, rfl⟩
   have := Ex.sizes_mem hm
   omega
  exact ⟨(t4 x hx).1, (t4 x hx).2, by omega, refExpr_all 20000 _ (by omega) (Nat.le_refl _) 8 (h4 x hx).2 (t4 x hx).2⟩
 ·exact rblocks_pr 20000 _ (by simp only [Pg.size] at hs; omega) (Nat.le_refl _) t2 1 h5
 ·exact rblocks_pr 20000 _ (by simp only [Pg.size] at hs; omega) (Nat.le_refl _) t3 1 h6
theorem rprog_loop0 (Z : Option (V × Heap)) (k : List Item) (H : Heap)
  (hk : ∀ φ : Fr, Fr.get φ 1 = .ptr H.length 0 → Fr.get φ 4 = .str (p.procs.flatMap procT) → M (eval tbl noExt) k φ (H ++ [some p.cells]) = Z) :
  ∀ (r j : Nat) (acc : List UInt8) (φ : Fr), j + r = p.procs.length → acc ++ (p.procs.drop j).flatMap procT = p.procs.flatMap procT → acc.length ≤ 30000000 * j →
   Fr.get φ 1 = .ptr H.length 0 → Fr.get φ 4 = .str acc → Fr.get φ 5 = .int .i64 j →
   M (eval tbl noExt) (.code l_flotsamref18_Program_0 :: .blk 0 :: k) φ (H ++ [some p.cells]) = Z := by
 obtain ⟨hpl, _, hpr, _⟩ := rprog_parts hp hok
 have hcells : p.cells = [.sl 2 p.pcells, .sl 7 (Sm.rows p.main), .sl 7 (Sm.rows p.recover), .sl 5 p.ocells] := rfl
 rw [hcells] at hk ⊢
 have hrl := p.pcells_len
 intro r
 induction r with
 | zero =>
  intro j acc φ hj hacc hb h1 h4 h5
  have hlt : ¬ (j : Int) < p.procs.length := by omega
  have hlt2 : ¬ j < p.procs.length := by omega
  rw [List.drop_eq_nil_of_le (by omega)] at hacc
  simp only [List.flatMap_nil, List.append_nil] at hacc
  rw [l_flotsamref18_Program_0, M_loop, ← l_flotsamref18_Program_0]
  simp [b_flotsamref18_Program_0, get0, h1, h4, h5, hlt, hlt2, hrl]
  exact hk _ (by simp [h1]) (by simp [h4, hacc])
 | succ r ih =>
  intro j acc φ hj hacc hb h1 h4 h5
  have hlt : j < p.procs.length := by omega
  have hlt' : (j : Int) < p.procs.length := by omega
  obtain ⟨e, he⟩ : ∃ e, e = p.procs[j] := ⟨_, rfl⟩
  have hmem : e ∈ p.procs := by rw [he]; exact List.getElem_mem _
  have hg : ∀ h : j < p.pcells.length, p.pcells[j] = [.str e.1, .sl 7 (Sm.rows e.2)] := fun _ => by simp [Pg.pcells, he]
  have hdr : p.procs.drop j = e :: p.procs.drop (j + 1) := by rw [List.drop_eq_getElem_cons hlt, ← he]
  rw [hdr] at hacc
  rw [List.flatMap_cons] at hacc
  obtain ⟨n1, n2, n3, n4, hB⟩ := hpr e hmem
  have hB0 := hB [] 0 (by omega) n3
  simp at hB0
  have hbl := blkR_len e.2 0 n2 (by omega) n3
  have hbT := blkT_R e.2 0
  have e2 : IntKind.i64.wrap ((j : Int) + 1) = ((j + 1 : Nat) : Int) := by rw [w64] <;> omega
  have next : ∀ φ' cs, cs = acc ++ procT e → Fr.get φ' 1 = .ptr H.length 0 → Fr.get φ' 4 = .str cs → Fr.get φ' 5 = .int .i64 ((j : Int) + 1) →
    M (eval tbl noExt) (.code l_flotsamref18_Program_0 :: .blk 0 :: k) φ' (H ++ [some [.sl 2 p.pcells, .sl 7 (Sm.rows p.main), .sl 7 (Sm.rows p.recover), .sl 5 p.ocells]]) = Z := by
   rintro φ' cs rfl q1 q4 q5
   refine ih (j + 1) _ φ' (by omega) ?_ ?_ q1 q4 (by simpa using q5)
   ·rw [← hacc]; simp
   ·simp only [procT, hbT, List.length_append, List.length_cons, List.length_nil]; omega
  rw [l_flotsamref18_Program_0, M_loop, ← l_flotsamref18_Program_0]
  simp [b_flotsamref18_Program_0, get0, h1, h4, h5, hlt, hlt', hrl, hg, hB0, e2]
  iterate 8 (try (rw [if_pos (by omega)]; simp [get0, h1, h4, h5, hlt, hlt', hrl, hg, hB0, e2]))
  exact next _ _ rfl (by simp [h1]) (by simp [procT, hbT]) (by simp)
theorem rprog_loop1 (Z : Option (V × Heap)) (k : List Item) (H : Heap) (X : List UInt8)
  (hk : ∀ φ : Fr, Fr.get φ 1 = .ptr H.length 0 → Fr.get φ 4 = .str (X ++ p.oracles.flatMap oraT) → M (eval tbl noExt) k φ (H ++ [some p.cells]) = Z) :
  ∀ (r j : Nat) (acc : List UInt8) (φ : Fr), j + r = p.oracles.length → acc ++ (p.oracles.drop j).flatMap oraT = X ++ p.oracles.flatMap oraT → acc.length ≤ 1000000000 + 30000000 * j →
   Fr.get φ 1 = .ptr H.length 0 → Fr.get φ 4 = .str acc → Fr.get φ 6 = .int .i64 j →
   M (eval tbl noExt) (.code l_flotsamref18_Program_1 :: .blk 2 :: k) φ (H ++ [some p.cells]) = Z := by
 obtain ⟨_, hpl, _, hpr, _⟩ := rprog_parts hp hok
 have hcells : p.cells = [.sl 2 p.pcells, .sl 7 (Sm.rows p.main), .sl 7 (Sm.rows p.recover), .sl 5 p.ocells] := rfl
 rw [hcells] at hk ⊢
 have hrl := p.ocells_len
 intro r
 induction r with
 | zero =>
  intro j acc φ hj hacc hb h1 h4 h5
  have hlt : ¬ (j : Int) < p.oracles.length := by omega
  have hlt2 : ¬ j < p.oracles.length := by omega
  rw [List.drop_eq_nil_of_le (by omega)] at hacc
  simp only [List.flatMap_nil, List.append_nil] at hacc
  rw [l_flotsamref18_Program_1, M_loop, ← l_flotsamref18_Program_1]
  simp [b_flotsamref18_Program_1, get0, h1, h4, h5, hlt, hlt2, hrl]
  exact hk _ (by simp [h1]) (by simp [h4, hacc])
 | succ r ih =>
  intro j acc φ hj hacc hb h1 h4 h5
  have hlt : j < p.oracles.length := by omega
  have hlt' : (j : Int) < p.oracles.length := by omega
  obtain ⟨x, he⟩ : ∃ e, e = p.oracles[j] := ⟨_, rfl⟩
  have hmem : x ∈ p.oracles := by rw [he]; exact List.getElem_mem _
  have hg : ∀ h : j < p.ocells.length, p.ocells[j] = .str x.1 :: x.2.cells := fun _ => by simp [Pg.ocells, he]
  have hdr : p.oracles.drop j = x :: p.oracles.drop (j + 1) := by rw [List.drop_eq_getElem_cons hlt, ← he]
  rw [hdr] at hacc
  rw [List.flatMap_cons] at hacc
  obtain ⟨n1, n2, n4, hB⟩ := hpr x hmem
  have hB0 := hB []
  have hbl := bare_length x.2 n2
  obtain ⟨nm, e⟩ := x
  dsimp only at *
  have e2 : IntKind.i64.wrap ((j : Int) + 1) = ((j + 1 : Nat) : Int) := by rw [w64] <;> omega
  have next : ∀ φ' cs, cs = acc ++ oraT (nm, e) → Fr.get φ' 1 = .ptr H.length 0 → Fr.get φ' 4 = .str cs → Fr.get φ' 6 = .int .i64 ((j : Int) + 1) →
    M (eval tbl noExt) (.code l_flotsamref18_Program_1 :: .blk 2 :: k) φ' (H ++ [some [.sl 2 p.pcells, .sl 7 (Sm.rows p.main), .sl 7 (Sm.rows p.recover), .sl 5 p.ocells]]) = Z := by
   rintro φ' cs rfl q1 q4 q5
   refine ih (j + 1) _ φ' (by omega) ?_ ?_ q1 q4 (by simpa using q5)
   ·rw [← hacc]; simp
   ·simp only [oraT, List.length_append, List.length_cons, List.length_nil]; omega
  obtain ⟨op, n, s, y⟩ := e
  have hec : (Ex.mk op n s y).cells = [.int .i64 op, .int .i64 n, .str s, .sl 4 (Ex.rows y)] := rfl
  rw [hec] at hg hB0
  rw [l_flotsamref18_Program_1, M_loop, ← l_flotsamref18_Program_1]
  simp [b_flotsamref18_Program_1, get0, h1, h4, h5, hlt, hlt', hrl, hg, hB0, e2]
  iterate 8 (try (rw [if_pos (by omega)]; simp [get0, h1, h4, h5, hlt, hlt', hrl, hg, hB0, e2]))
  exact next _ _ rfl (by simp [h1]) (by simp [oraT]) (by simp)
end
theorem RProgram_eq (p : Pg) (hp : p.Fine) (hs1 : p.size ≤ 1000) (H : Heap) : eval tbl noExt n_flotsamref18_Program [.agg p.cells] H = some (.tup [.str (if p.ok then p.text else []), .bool p.ok], H) := by
 have hR := refRight_eq p hp hs1 []
 have hcells : p.cells = [.sl 2 p.pcells, .sl 7 (Sm.rows p.main), .sl 7 (Sm.rows p.recover), .sl 5 p.ocells] := rfl
 rw [eval_M rfl rfl t_flotsamref18_Program rfl]
 cases hok : p.ok with
 | false =>
  rw [hok] at hR
  rw [hcells] at hR ⊢
  simp [c_flotsamref18_Program, get0, hR]
 | true =>
 rw [hok] at hR
 obtain ⟨hpl, hol, hpr, hor, ⟨m1, m2, hM⟩, r1, r2, hRc⟩ := rprog_parts hp hok
 have hM0 := hM [] 0 (by omega) m2
 have hRc0 := hRc [] 0 (by omega) r2
 simp at hM0 hRc0
 have hrr : (Sm.rows p.recover).length = p.recover.length := by rw [Sm.rows_eq]; simp
 have hsz := hp.size
 have bm := blkR_len p.main 0 m1 (by omega) m2
 have br := blkR_len p.recover 0 r1 (by omega) r2
 have hpsz : p.psize + Sm.sizes p.main + Sm.sizes p.recover + p.osize ≤ 19000 := hsz
 obtain ⟨a0, ha0⟩ : ∃ a0, a0 = p.procs.flatMap procT := ⟨_, rfl⟩
 have l0 : a0.length ≤ 500000000 := by
  have h : ∀ l : List (List UInt8 × List Sm), (∀ x ∈ l, (procT x).length ≤ 30000000) → (l.flatMap procT).length ≤ 30000000 * l.length := by
   intro l
   induction l with
   | nil => simp
   | cons x l ih =>
    intro h
    have h1 := h x (by simp)
    have h2 := ih (fun y hy => h y (by simp [hy]))
    simp only [List.flatMap_cons, List.length_append, List.length_cons]
    omega
  have := h p.procs (fun x hx => by
   obtain ⟨n1, n2, n3, n4, _⟩ := hpr x hx
   have := blkR_len x.2 0 n2 (by omega) n3
   simp only [procT, blkT_R, List.length_append, List.length_cons, List.length_nil]; omega)
  rw [ha0]; omega
 have lbl := lt_flotsamref18_block
 obtain ⟨a1, ha1⟩ : ∃ a1, a1 = a0 ++ ([109, 97, 105, 110] ++ blkT p.main 0 ++ [10]) := ⟨_, rfl⟩
 have l1 : a1.length ≤ 600000000 := by rw [ha1, blkT_R]; simp; omega
 obtain ⟨a2, ha2⟩ : ∃ a2, a2 = a1 ++ (if p.recover.length = 0 then [] else [114, 101, 99, 111, 118, 101, 114] ++ blkT p.recover 0 ++ [10]) := ⟨_, rfl⟩
 have l2 : a2.length ≤ 700000000 := by rw [ha2, blkT_R]; split <;> simp <;> omega
 have htext : p.text = a2 ++ p.oracles.flatMap oraT := by rw [ha2, ha1, ha0]; simp [Pg.text]
 have last : ∀ φ : Fr, Fr.get φ 1 = .ptr H.length 0 → Fr.get φ 4 = .str a2 → Fr.get φ 6 = .int .i64 0 → M (eval tbl noExt) [.code l_flotsamref18_Program_1, .blk 2, .code r_flotsamref18_Program_0, .fin [.t 2, .t 3] H.length] φ (H ++ [some p.cells]) = some (.tup [.str p.text, .bool true], H) := by
  intro φ h1 h4 h6
  refine rprog_loop1 hp hok _ _ H a2 (fun φ' q1 q4 => ?_) p.oracles.length 0 a2 φ (by omega) (by simp) (by omega) h1 h4 h6
  rw [← htext] at q4
  rw [hcells]
  simp [r_flotsamref18_Program_0, q1, q4]
 have first := rprog_loop0 hp hok (some (.tup [.str p.text, .bool true], H)) [.code r_flotsamref18_Program_1, .fin [.t 2, .t 3] H.length] H (fun φ h1 h4 => by
  rw [← ha0] at h4
  rw [hcells] at last ⊢
  by_cases hr0 : p.recover.length = 0
  ·have e2 : a2 = a0 ++ ([109, 97, 105, 110, 32] ++ blkR p.main 0 ++ [10]) := by rw [ha2, if_pos hr0, ha1, blkT_R]; simp
   simp [r_flotsamref18_Program_1, get0, h1, h4, hM0, lbl, hrr, hr0]
   iterate 6 (try (rw [if_pos (by omega)]; simp [get0, h1, h4, hM0, lbl, hrr, hr0]))
   exact last _ (by simp [h1]) (by simp [e2]) (by simp)
  ·have e2 : a2 = a0 ++ ([109, 97, 105, 110, 32] ++ blkR p.main 0 ++ [10]) ++ ([114, 101, 99, 111, 118, 101, 114, 32] ++ blkR p.recover 0 ++ [10]) := by rw [ha2, if_neg hr0, ha1, blkT_R, blkT_R]; simp
   have hr1 : (0 : Int) < p.recover.length := by omega
   simp [r_flotsamref18_Program_1, get0, h1, h4, hM0, hRc0, lbl, hrr, hr0, hr1, Nat.pos_of_ne_zero hr0]
   iterate 9 (try (rw [if_pos (by omega)]; simp [get0, h1, h4, hM0, hRc0, lbl, hrr, hr0, hr1, Nat.pos_of_ne_zero hr0]))
   exact last _ (by simp [h1]) (by simp [e2]) (by simp)) p.procs.length 0 [] 
 rw [hcells] at hR first ⊢
 simp [c_flotsamref18_Program, get0, hR]
 exact first _ (by omega) (by simp) (by simp) (by simp) (by simp) (by simp)
theorem knows18 : eval tbl noExt n_flotsamlaw18_knows [] [] = some (.bool true, []) := (eval_iff ..).2 ⟨200, by kernel_rfl⟩
theorem PrintTells_loop (p : Pg) (hp : p.Fine) (hs1 : p.size ≤ 1000) : ∀ (r j : Nat) (φ : Fr), j + r = p.oracles.length → Fr.get φ 1 = .ptr 0 0 → Fr.get φ 7 = .int .i64 j →
  M (eval tbl noExt) [.code l_flotsamlaw18_PrintTells_0, .blk 0, .code r_flotsamlaw18_PrintTells_0, .fin [.t 2] 0] φ [some p.cells] = some (.bool true, []) := by
 have hcells : p.cells = [.sl 2 p.pcells, .sl 7 (Sm.rows p.main), .sl 7 (Sm.rows p.recover), .sl 5 p.ocells] := rfl
 rw [hcells]
 have hrl := p.ocells_len
 have hol := (p.lens hp.size).2.1
 intro r
 induction r with
 | zero =>
  intro j φ hj h1 h7
  have hlt : ¬ (j : Int) < p.oracles.length := by omega
  have hlt2 : ¬ j < p.oracles.length := by omega
  rw [l_flotsamlaw18_PrintTells_0, M_loop, ← l_flotsamlaw18_PrintTells_0]
  simp [b_flotsamlaw18_PrintTells_0, r_flotsamlaw18_PrintTells_0, h1, h7, hlt, hlt2, hrl]
 | succ r ih =>
  intro j φ hj h1 h7
  have hlt : j < p.oracles.length := by omega
  have hlt' : (j : Int) < p.oracles.length := by omega
  obtain ⟨x, he⟩ : ∃ e, e = p.oracles[j] := ⟨_, rfl⟩
  have hmem : x ∈ p.oracles := by rw [he]; exact List.getElem_mem _
  have hg : ∀ h : j < p.ocells.length, p.ocells[j] = .str x.1 :: x.2.cells := fun _ => by simp [Pg.ocells, he]
  have htx := (hp.txt.2.2.2 x hmem).2
  have hsz : x.2.size ≤ 1000 := by
   have hs := p.size_eq
   have hm : x.2 ∈ p.exprs := by simp only [Pg.exprs, List.mem_map]; exact ⟨x, hmem, rfl⟩
   have := Ex.sizes_mem hm
   omega
  have hA := PExpr_eq x.2 htx (by omega) []
  have hB := RExpr_eq x.2 htx (by omega) []
  have e2 : IntKind.i64.wrap ((j : Int) + 1) = ((j + 1 : Nat) : Int) := by rw [w64] <;> omega
  obtain ⟨nm, e⟩ := x
  dsimp only at *
  generalize (if e.ok 8 then e.bare else []) = T at hA hB
  generalize e.ok 8 = B at hA hB
  obtain ⟨op, n, s, y⟩ := e
  have hec : (Ex.mk op n s y).cells = [.int .i64 op, .int .i64 n, .str s, .sl 4 (Ex.rows y)] := rfl
  rw [hec] at hg hA hB
  rw [l_flotsamlaw18_PrintTells_0, M_loop, ← l_flotsamlaw18_PrintTells_0]
  simp [b_flotsamlaw18_PrintTells_0, h1, h7, hlt, hlt', hrl, hg, hA, hB, e2]
  exact ih (j + 1) _ (by omega) (by simp [h1]) (by simp)
theorem PrintTells_eq (p : Pg) (_ : p.fit) : ∃ H', eval tbl noExt n_flotsamlaw18_PrintTells [.agg p.cells] [] = some (.bool true, H') := by
 refine ⟨[], ?_⟩
 have hk := knows18
 obtain ⟨b, hb, hsm⟩ := Small_eq p
 have hcells : p.cells = [.sl 2 p.pcells, .sl 7 (Sm.rows p.main), .sl 7 (Sm.rows p.recover), .sl 5 p.ocells] := rfl
 rw [eval_M rfl rfl t_flotsamlaw18_PrintTells rfl]
 cases b with
 | false =>
  rw [hcells] at hb ⊢
  simp [c_flotsamlaw18_PrintTells, hb, hk]
 | true =>
  obtain ⟨hs, htx⟩ := hsm rfl
  have hf : p.Fine := ⟨by omega, htx⟩
  have hA := PProgram_eq p hf []
  have hB := RProgram_eq p hf (by omega) []
  have hL := PrintTells_loop p hf (by omega) p.oracles.length 0
  generalize (if p.ok then p.text else []) = T at hA hB
  generalize p.ok = B at hA hB
  rw [hcells] at hb hA hB hL ⊢
  simp [c_flotsamlaw18_PrintTells, hb, hk, hA, hB]
  exact hL _ (by omega) (by simp) (by simp)
end Go.AM.Spec
