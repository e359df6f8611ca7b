/-
 The parts of this proof that speak of the functions one by one.
-/
import Derived.Test.YtfbnodahmmlfdaaGreatDoorSpecWd
namespace Go.AM.Spec
set_option linter.unusedVariables false
set_option linter.unusedSimpArgs false
set_option maxHeartbeats 1000000
set_option maxRecDepth 10000
theorem quo_loop (H : Heap) (s : List UInt8) (hs : s.length ≤ 1000000) : ∀ (n i : Nat) (acc : List UInt8) (φ : Fr), s.length - i ≤ n → i ≤ s.length → acc.length ≤ 3 * i + 1 → Fr.get φ 3 = .bptr H.length → Fr.get φ 8 = .own 1 (bytesRows s) → Fr.get φ 9 = .int .i64 s.length → Fr.get φ 10 = .int .i64 i →
  M (eval tbl noExt) [.code l_view_Quote_0, .blk 0, .code r_view_Quote_0, .fin [.t 2] H.length] φ (H ++ [some [.bld bT bE acc]]) = some (.str (acc ++ (s.drop i).flatMap signC ++ [34]), H) := by
 intro n
 induction n with
 | zero =>
  intro i acc φ hn hi ha h3 h8 h9 h10
  obtain rfl : i = s.length := by omega
  have hW := WriteByte_eq H acc 34 (by omega)
  have e34 : ((34 : UInt8).toNat : Int) = 34 := rfl
  rw [e34] at hW
  rw [l_view_Quote_0, M_loop, ← l_view_Quote_0]
  simp [b_view_Quote_0, r_view_Quote_0, h3, h8, h9, h10, hW, BString_eq]
 | succ n ih =>
  intro i acc φ hn hi ha h3 h8 h9 h10
  by_cases hil : i = s.length
  ·subst hil
   have hW := WriteByte_eq H acc 34 (by omega)
   have e34 : ((34 : UInt8).toNat : Int) = 34 := rfl
   rw [e34] at hW
   rw [l_view_Quote_0, M_loop, ← l_view_Quote_0]
   simp [b_view_Quote_0, r_view_Quote_0, h3, h8, h9, h10, hW, BString_eq]
  ·have hlt : i < s.length := by omega
   have hd : s.drop i = s[i] :: s.drop (i + 1) := List.drop_eq_getElem_cons hlt
   have h1 : (i : Int) < s.length := by omega
   have hl : (bytesRows s).length = s.length := by simp [bytesRows]
   have hr : (bytesRows s)[i]'(by rw [hl]; exact hlt) = [.int .u8 (s[i]).toNat] := by simp [bytesRows]
   have hw : IntKind.i64.wrap ((i : Int) + 1) = (i + 1 : Nat) := by rw [w64] <;> omega
   have hP := plain_eq s[i]
   rw [hd]
   generalize s[i] = c at hr hP ⊢
   have hc := c.toNat_lt
   rw [l_view_Quote_0, M_loop, ← l_view_Quote_0]
   cases hp : plainC c with
   | true =>
    rw [hp] at hP
    have hW := WriteByte_eq H acc c (by omega)
    simp [b_view_Quote_0, h3, h8, h9, h10, h1, hl, hlt, hr, hP, hW, hw]
    rw [ih (i + 1) (acc ++ [c]) _ (by omega) (by omega) (by simp; omega) (by simp [h3]) (by simp [h8]) (by simp [h9]) (by simp)]
    simp [signC, hp]
   | false =>
    rw [hp] at hP
    have hW1 := WriteByte_eq H acc 92 (by omega)
    have e92 : ((92 : UInt8).toNat : Int) = 92 := rfl
    rw [e92] at hW1
    obtain ⟨a, ea⟩ : ∃ a, a = c.toNat / 16 := ⟨_, rfl⟩
    obtain ⟨b, eb⟩ : ∃ b, b = c.toNat % 16 := ⟨_, rfl⟩
    have q1 : (c.toNat : Int).fdiv (2 ^ min 4 IntKind.u8.bits) = (a : Int) := by
     have : (2 : Int) ^ min 4 IntKind.u8.bits = 16 := rfl
     rw [this, Int.fdiv_eq_ediv_of_nonneg _ (by omega)]; omega
    have q2 : IntKind.u8.wrap ((c.toNat % 2 ^ IntKind.u8.bits &&& 15 % 2 ^ IntKind.u8.bits : Nat) : Int) = (b : Int) := by
     have := all_u8 (p := fun c => decide (IntKind.u8.wrap ((c.toNat % 2 ^ IntKind.u8.bits &&& 15 % 2 ^ IntKind.u8.bits : Nat) : Int) = (c.toNat % 16 : Nat))) (by decide +kernel) c
     rw [eb]
     simpa using this
    have q3 : a < 16 := by omega
    have q4 : b < 16 := by omega
    have q3' : (a : Int) < 16 := by omega
    have q4' : (b : Int) < 16 := by omega
    have g1 : ∀ k, k < 16 → hexText[k]? = some (hexd k) := by decide
    have r1 := g1 _ q3
    have r2 := g1 _ q4
    simp only [hexText] at r1 r2
    have hsg : signC c = [92, hexd a, hexd b] := by simp [signC, hp, ea, eb]
    have hW2 := WriteByte_eq H (acc ++ [92]) (hexd a) (by simp; omega)
    have hW3 := WriteByte_eq H (acc ++ [92] ++ [hexd a]) (hexd b) (by simp; omega)
    simp only [List.append_assoc, List.cons_append, List.nil_append] at hW2 hW3
    simp [b_view_Quote_0, h3, h8, h9, h10, h1, hl, hlt, hr, hP, hW1, hW2, hW3, q1, q2, q3', q4', r1, r2, hw]
    rw [ih (i + 1) (acc ++ [92, hexd a, hexd b]) _ (by omega) (by omega) (by simp; omega) (by simp [h3]) (by simp [h8]) (by simp [h9]) (by simp)]
    simp [hsg]
theorem Quote_eq (s : List UInt8) (hs : s.length ≤ 1000000) (H : Heap) : eval tbl noExt n_view_Quote [.str s] H = some (.str (quo s), H) := by
 have hW := WriteByte_eq H [] 34 (by simp)
 have e34 : ((34 : UInt8).toNat : Int) = 34 := rfl
 rw [e34] at hW
 have hl : (bytesRows s).length = s.length := by simp [bytesRows]
 rw [eval_M rfl rfl t_view_Quote rfl]
 simp [c_view_Quote, hW, hl]
 rw [quo_loop H s hs s.length 0 [34] _ (by omega) (by omega) (by simp) (by simp) (by simp) (by simp) (by simp)]
 simp [quo]
set_option maxHeartbeats 4000000
def wrB (K : Heap) (i : Nat) (bs : List UInt8) : Heap := K.set i (some [.bld bP bE bs])
section
variable {K : Heap} {i : Nat}
@[simp] theorem wrB_len (bs : List UInt8) : (wrB K i bs).length = K.length := by simp [wrB]
theorem wrB_get (h : i < K.length) (bs : List UInt8) (T : Heap) : (wrB K i bs ++ T)[i]? = some (some [.bld bP bE bs]) := by
 rw [List.getElem?_append_left (by simpa using h)]
 simp [wrB, h]
theorem wrB_set (h : i < K.length) (bs cs : List UInt8) (T : Heap) : (wrB K i bs ++ T).set i (some [.bld bP bE cs]) = wrB K i cs ++ T := by
 rw [List.set_append_left _ _ (by simpa using h)]
 simp [wrB]
theorem wrB_app (h : i < K.length) (bs : List UInt8) (T : Heap) : wrB K i bs ++ T = wrB (K ++ T) i bs := by
 unfold wrB
 rw [List.set_append_left _ _ h]
theorem PWrite_eq (h : i < K.length) (bs s : List UInt8) (T : Heap) (h1 : bs.length < 100000000) (h2 : s.length < 100000000) : eval tbl noExt n_pstrings_Builder_WriteString [.bptr i, .str s] (wrB K i bs ++ T) = some (.tup [.int .i64 s.length, .undef], wrB K i (bs ++ s) ++ T) := by
 rw [eval_X (e := xWriteString bT bP bE) rfl rfl]
 simp [xWriteString, wrB_get h, wrB_set h, h1, h2]
theorem PString_eq (h : i < K.length) (bs : List UInt8) (T : Heap) : eval tbl noExt n_pstrings_Builder_String [.bptr i] (wrB K i bs ++ T) = some (.str bs, (K ++ T).set i none) := by
 rw [eval_X (e := xString bT bP bE) rfl rfl]
 have e : (wrB K i bs ++ T).set i none = (K ++ T).set i none := by
  rw [wrB_app h]
  simp [wrB]
 simp [xString, wrB_get h, e]
theorem add_loop (h : i < K.length) (T : Heap) (ws : List (List UInt8)) (bs : List UInt8) (hb : bs.length + ws.flatten.length ≤ 90000000) (hw : ws.length ≤ 1000) :
  ∀ (r j : Nat) (acc : List UInt8) (φ : Fr), j + r = ws.length → acc ++ (ws.drop j).flatten = bs ++ ws.flatten → Fr.get φ 0 = .bptr i → Fr.get φ 6 = .sl 1 (ws.map tx) → Fr.get φ 7 = .int .i64 ws.length → Fr.get φ 8 = .int .i64 j →
   M (eval tbl noExt) [.code l_pq_add_0, .blk 0, .fin [] (K.length + T.length)] φ (wrB K i acc ++ T) = some (.tup [], wrB K i (bs ++ ws.flatten) ++ T) := by
 intro r
 induction r with
 | zero =>
  intro j acc φ hj hacc h0 h6 h7 h8
  have hlt : ¬ (j : Int) < ws.length := by omega
  rw [List.drop_eq_nil_of_le (by omega)] at hacc
  simp at hacc
  rw [l_pq_add_0, M_loop, ← l_pq_add_0, ← hacc]
  have ht : (wrB K i acc ++ T).take (K.length + T.length) = wrB K i acc ++ T := List.take_of_length_le (by simp)
  simp [b_pq_add_0, h0, h6, h7, h8, hlt, ht]
 | succ r ih =>
  intro j acc φ hj hacc h0 h6 h7 h8
  have hlt : j < ws.length := by omega
  have hlt' : (j : Int) < ws.length := by omega
  obtain ⟨t, ht⟩ : ∃ t, t = ws[j] := ⟨_, rfl⟩
  have hg : ∀ h : j < ws.length, ws[j] = t := fun _ => ht.symm
  rw [List.drop_eq_getElem_cons hlt, ← ht, List.flatten_cons] at hacc
  have hl := congrArg List.length hacc
  simp only [List.length_append] at hl
  have hW := PWrite_eq h acc t T (by omega) (by omega)
  have e2 : IntKind.i64.wrap ((j : Int) + 1) = ((j + 1 : Nat) : Int) := by rw [w64] <;> omega
  rw [l_pq_add_0, M_loop, ← l_pq_add_0]
  simp [b_pq_add_0, h0, h6, h7, h8, hlt, hlt', hg, tx, hW, e2]
  exact ih (j + 1) (acc ++ t) _ (by omega) (by rw [← hacc]; simp) (by simp [h0]) (by simp [h6]) (by simp [h7]) (by simp)
theorem padd_eq (h : i < K.length) (T : Heap) (ws : List (List UInt8)) (bs : List UInt8) (hb : bs.length + ws.flatten.length ≤ 90000000) (hw : ws.length ≤ 1000) :
  eval tbl noExt n_pq_add [.bptr i, .sl 1 (ws.map tx)] (wrB K i bs ++ T) = some (.tup [], wrB K i (bs ++ ws.flatten) ++ T) := by
 rw [eval_M rfl rfl t_pq_add rfl]
 simp [c_pq_add]
 exact add_loop h T ws bs hb hw ws.length 0 bs _ (by omega) (by simp) (by simp) (by simp) (by simp) (by simp)
theorem add_own (h : i < K.length) (T : Heap) (ws : List (List UInt8)) (bs : List UInt8) (hb : bs.length + ws.flatten.length ≤ 90000000) (hw : ws.length ≤ 1000) :
  eval tbl noExt n_pq_add [.bptr i, .own 1 (ws.map tx)] (wrB K i bs ++ T) = some (.tup [], wrB K i (bs ++ ws.flatten) ++ T) := by
 rw [eval_M rfl rfl t_pq_add rfl]
 simp [c_pq_add]
 exact add_loop h T ws bs hb hw ws.length 0 bs _ (by omega) (by simp) (by simp) (by simp) (by simp) (by simp)
theorem add1 (h : i < K.length) (T : Heap) (s bs : List UInt8) (hb : bs.length + s.length ≤ 90000000) : eval tbl noExt n_pq_add [.bptr i, .own 1 [[.str s]]] (wrB K i bs ++ T) = some (.tup [], wrB K i (bs ++ s) ++ T) := by
 simpa [tx] using add_own h T [s] bs (by simpa using hb) (by simp)
theorem add2 (h : i < K.length) (T : Heap) (s t bs : List UInt8) (hb : bs.length + (s.length + t.length) ≤ 90000000) : eval tbl noExt n_pq_add [.bptr i, .own 1 [[.str s], [.str t]]] (wrB K i bs ++ T) = some (.tup [], wrB K i (bs ++ (s ++ t)) ++ T) := by
 simpa [tx] using add_own h T [s, t] bs (by simpa using hb) (by simp)
theorem add3 (h : i < K.length) (T : Heap) (s t u bs : List UInt8) (hb : bs.length + (s.length + (t.length + u.length)) ≤ 90000000) : eval tbl noExt n_pq_add [.bptr i, .own 1 [[.str s], [.str t], [.str u]]] (wrB K i bs ++ T) = some (.tup [], wrB K i (bs ++ (s ++ (t ++ u))) ++ T) := by
 simpa [tx] using add_own h T [s, t, u] bs (by simpa using hb) (by simp)
end
theorem strong_eq (op : Int) (H : Heap) : eval tbl noExt n_print_strong [.int .i64 op] H = some (.int .i64 (strong op : Nat), H) := by
 rw [eval_M rfl rfl t_print_strong rfl]
 by_cases h14 : op = 14
 ·simp [c_print_strong, strong, h14]
 by_cases h13 : op = 13
 ·simp [c_print_strong, strong, h13]
 by_cases h8 : op = 8
 ·simp [c_print_strong, strong, h8]
 by_cases h11 : op = 11
 ·simp [c_print_strong, strong, h11]
 by_cases h12 : op = 12
 ·simp [c_print_strong, strong, h12]
 by_cases h9 : op = 9
 ·simp [c_print_strong, strong, h9]
 by_cases h10 : op = 10
 ·simp [c_print_strong, strong, h10]
 simp [c_print_strong, strong, h14, h13, h8, h11, h12, h9, h10]
theorem psign_eq (op : Int) (H : Heap) : eval tbl noExt n_print_sign [.int .i64 op] H = some (.str (signT op), H) := by
 rw [eval_M rfl rfl t_print_sign rfl]
 by_cases h9 : op = 9
 ·simp [c_print_sign, signT, h9]
 by_cases h10 : op = 10
 ·simp [c_print_sign, signT, h10]
 by_cases h11 : op = 11
 ·simp [c_print_sign, signT, h11]
 by_cases h12 : op = 12
 ·simp [c_print_sign, signT, h12]
 by_cases h13 : op = 13
 ·simp [c_print_sign, signT, h13]
 simp [c_print_sign, signT, h13, h11, h12, h9, h10]
theorem call_eq (op : Int) (H : Heap) : eval tbl noExt n_print_call [.int .i64 op] H = some (.str (callT op), H) := by
 rw [eval_M rfl rfl t_print_call rfl]
 by_cases h5 : op = 5
 ·simp [c_print_call, callT, h5]
 by_cases h6 : op = 6
 ·simp [c_print_call, callT, h6]
 simp [c_print_call, callT, h5, h6]
theorem M_fin_dfn (call : CallF) (b : AC) (res : List ARes) (n : Nat) (φ : Fr) (H : Heap) : M call [.code b, .fin res n] φ H = M call [.code b, .dfn some res n] φ H := by
 simp only [M]
 cases h : exec call b φ H with
 | none => rfl
 | some r =>
  obtain ⟨e, φ', H'⟩ := r
  cases e with
  | normal => rfl
  | ret => rfl
  | exit id => simp [exitK]
def ExPr (e : Ex) : Prop := ∀ (K T : Heap) (i : Nat) (bs : List UInt8) (k : Nat), i < K.length → bs.length + 1400 * e.size ≤ 80000000 →
 eval tbl noExt n_pq_expr [.bptr i, .agg e.cells, .int .i64 k] (wrB K i bs ++ T) = some (.tup [], wrB K i (bs ++ par (decide (strong e.op < k)) e.bare) ++ T)
theorem rest_eq {rest : AC} (hrest : ∃ pre c ops g ks, c_pq_expr.body = .dfr pre c ops g ks rest) (op n : Int) (s : List UInt8) (x : List Ex) (d : Nat) (hok : (Ex.mk op n s x).ok d = true) (ht : (Ex.mk op n s x).txt) (hx : ∀ e ∈ x, ExPr e)
  (K T : Heap) (i : Nat) (hi : i < K.length) (bs : List UInt8) (hb : bs.length + 1400 * (Ex.mk op n s x).size ≤ 80000100) (G : Heap → Option Heap) (m : Nat) (φ : Fr) (h0 : Fr.get φ 0 = .bptr i) (h4 : Fr.get φ 4 = .ptr (K.length + T.length) 0) :
  M (eval tbl noExt) [.code rest, .dfn G [] m] φ (wrB K i bs ++ (T ++ [some (Ex.mk op n s x).cells])) = (G (wrB K i (bs ++ (Ex.mk op n s x).bare) ++ (T ++ [some (Ex.mk op n s x).cells]))).bind fun H => some (.tup [], H.take m) := by
 obtain ⟨pre, c, ops, g, ks, he⟩ := hrest
 simp only [c_pq_expr, AC.dfr.injEq] at he
 obtain ⟨_, _, _, _, _, rfl⟩ := he
 have hat : ∀ (cs : List UInt8) (y : Option (List V)), (wrB K i cs ++ (T ++ [y]))[K.length + T.length]? = some y := by
  intro cs y
  rw [← List.append_assoc]
  simp
 simp only [Ex.txt] at ht
 have hsz : 1 ≤ (Ex.mk op n s x).size := by simp only [Ex.size]; omega
 have hcells : (Ex.mk op n s x).cells = [.int .i64 op, .int .i64 n, .str s, .sl 4 (Ex.rows x)] := rfl
 have hlen := text_length n
 have hq := quo_length s
 have hst := fun H => strong_eq op H
 have hsg := fun H => psign_eq op H
 have hcl := fun H => call_eq op H
 have L1 : ∀ cs t : List UInt8, cs.length + t.length ≤ 90000000 → eval tbl noExt n_pq_add [.bptr i, .own 1 [[.str t]]] (wrB K i cs ++ (T ++ [some (Ex.mk op n s x).cells])) = some (.tup [], wrB K i (cs ++ t) ++ (T ++ [some (Ex.mk op n s x).cells])) := fun cs t h => add1 hi _ t cs h
 have L2 : ∀ cs t u : List UInt8, cs.length + (t.length + u.length) ≤ 90000000 → eval tbl noExt n_pq_add [.bptr i, .own 1 [[.str t], [.str u]]] (wrB K i cs ++ (T ++ [some (Ex.mk op n s x).cells])) = some (.tup [], wrB K i (cs ++ (t ++ u)) ++ (T ++ [some (Ex.mk op n s x).cells])) := fun cs t u h => add2 hi _ t u cs h
 rw [hcells] at L1 L2
 rw [Ex.ok] at hok
 cases hpo : parts op with
 | none => rw [hpo] at hok; cases hok
 | some k =>
 rw [hpo] at hok
 simp only [Bool.and_eq_true, decide_eq_true_eq] at hok
 obtain ⟨⟨⟨hd, hxl⟩, hleaf⟩, hoks⟩ := hok
 simp only [Ex.bare, exBody]
 have fin : ∀ Z : Heap, (G Z).bind (fun H => finish [] m φ H) = (G Z).bind fun H => some (.tup [], H.take m) := fun Z => by
  congr 1
 by_cases h1 : op = 1
 ·subst h1
  have hdg := digits_eq [] n (by simp [leafOk] at hleaf; omega) (by simp [leafOk] at hleaf; omega)
  have A := L1 bs (text n) (by omega)
  simp [hcells, h0, h4, hat, hst, hdg, A]
 by_cases h2 : op = 2
 ·subst h2
  have hqt := Quote_eq s (by omega) []
  have A := L1 bs (quo s) (by omega)
  simp [hcells, h0, h4, hat, hst, hqt, A]
 by_cases h4' : op = 4
 ·subst h4'
  have A := L1 bs s (by omega)
  simp [hcells, h0, h4, hat, hst, A]
 by_cases h3 : op = 3
 ·subst h3
  by_cases hn : n = 1
  ·subst hn
   have A := L1 bs [116, 114, 117, 101] (by simp; omega)
   simp [hcells, h0, h4, hat, hst, A, boolT]
  ·have A := L1 bs [102, 97, 108, 115, 101] (by simp; omega)
   simp [hcells, h0, h4, hat, hst, A, boolT, hn]
 obtain ⟨o1, o2, hk⟩ := parts_some hpo
 rw [if_neg (by omega)] at hk
 have C1 : ∀ a ∈ x, ∀ (cs : List UInt8) (j : Nat), cs.length + 1400 * a.size ≤ 80000000 → eval tbl noExt n_pq_expr [.bptr i, .agg a.cells, .int .i64 j] (wrB K i cs ++ (T ++ [some (Ex.mk op n s x).cells])) = some (.tup [], wrB K i (cs ++ par (decide (strong a.op < j)) a.bare) ++ (T ++ [some (Ex.mk op n s x).cells])) :=
  fun a ha cs j h => hx a ha K _ i cs j hi h
 rw [hcells] at C1
 by_cases h58 : op ≤ 8
 ·rw [if_pos h58] at hk
  subst hk
  match x, hxl with
  | [a], _ =>
  have ha := (Ex.strips a).1
  have hb2 := (Ex.strips a).2
  simp only [allStrip] at hb2
  have hbs : bs.length + 1400 * a.size + 1400 ≤ 80000100 := by simp only [Ex.size, Ex.sizes] at hb; omega
  simp only [Ex.rows] at C1 L1 L2 hcells hat ⊢
  have hal := par_length (decide (strong a.op < leastOf op 0)) a.bare
  have hbl := bare_length a ht.2.1
  by_cases h8 : op = 8
  ·subst h8
   have A := L1 bs [110, 111, 116, 32] (by simp; omega)
   have C := C1 a (by simp) (bs ++ [110, 111, 116, 32]) 2 (by simp; omega)
   simp at C
   simp [hcells, Ex.rows, h0, h4, hat, hst, A, ha, hb2, List.take_of_length_le, C, Ex.bares, leastOf]
  ·have h567 : op = 5 ∨ op = 6 ∨ op = 7 := by omega
   have hl6 := call_length op
   have A := L2 bs (callT op) [40] (by simp; omega)
   have C := C1 a (by simp) (bs ++ (callT op ++ [40])) 0 (by simp; omega)
   have B := L1 (bs ++ (callT op ++ [40]) ++ par (decide (strong a.op < 0)) a.bare) [41] (by simp [par]; omega)
   simp [par] at C B A
   rcases h567 with rfl | rfl | rfl <;>
    simp [hcells, Ex.rows, h0, h4, hat, hst, hcl, A, ha, hb2, List.take_of_length_le, C, B, Ex.bares, leastOf, par]
 ·rw [if_neg h58] at hk
  subst hk
  match x, hxl with
  | [a, b], _ =>
  have ha := (Ex.strips a).1
  have ha2 := (Ex.strips a).2
  have hb1 := (Ex.strips b).1
  have hb2 := (Ex.strips b).2
  simp only [allStrip] at ha2 hb2
  have hbs : bs.length + 1400 * a.size + 1400 * b.size + 1400 ≤ 80000100 := by simp only [Ex.size, Ex.sizes] at hb; omega
  simp only [Ex.rows] at C1 L1 L2 hcells hat ⊢
  have hla := par_length (decide (strong a.op < leastOf op 0)) a.bare
  have hba := bare_length a ht.2.1
  have hls := sign_length op
  have e8 : ¬ op = 8 := by omega
  have e5 : ¬ op = 5 := by omega
  have e6 : ¬ op = 6 := by omega
  have e7 : ¬ op = 7 := by omega
  have hl0 : leastOf op 0 = if strong op = 3 then 4 else strong op := by simp [leastOf, e8, e5, e6, e7]
  have hl1 : leastOf op 1 = strong op + 1 := by simp [leastOf, e8, e5, e6, e7]
  have hs5 : strong op ≤ 5 := by
   unfold strong
   repeat' split
   all_goals omega
  have w4 : IntKind.i64.wrap ((strong op : Int) + 1) = ((strong op + 1 : Nat) : Int) := by rw [w64] <;> omega
  have C := C1 a (by simp) bs (leastOf op 0) (by omega)
  have A := L1 (bs ++ par (decide (strong a.op < leastOf op 0)) a.bare) (signT op) (by simp; omega)
  have D := C1 b (by simp) (bs ++ par (decide (strong a.op < leastOf op 0)) a.bare ++ signT op) (leastOf op 1) (by simp; omega)
  have w44 : IntKind.i64.wrap 4 = 4 := w64 (by omega) (by omega)
  by_cases h3s : strong op = 3
  ·have h3i : (strong op : Int) = 3 := by omega
   rw [hl0, if_pos h3s] at C A D
   rw [hl1, h3s] at D
   simp at C A D
   simp [hcells, Ex.rows, h0, h4, hat, h1, h2, h3, h4', e8, e5, e6, e7, hst, h3s, h3i, w44, hsg, A, ha, ha2, hb1, hb2, List.take_of_length_le, C, D, Ex.bares, hl0, hl1]
  ·have h3i : ¬ (strong op : Int) = 3 := by omega
   rw [hl0, if_neg h3s] at C A D
   rw [hl1] at D
   simp at C A D
   simp [hcells, Ex.rows, h0, h4, hat, h1, h2, h3, h4', e8, e5, e6, e7, hst, h3s, h3i, w4, hsg, A, ha, ha2, hb1, hb2, List.take_of_length_le, C, D, Ex.bares, hl0, hl1]
theorem expr_pr (op n : Int) (s : List UInt8) (x : List Ex) (d : Nat) (hok : (Ex.mk op n s x).ok d = true) (ht : (Ex.mk op n s x).txt) (hx : ∀ e ∈ x, ExPr e) : ExPr (.mk op n s x) := by
 intro K T i bs k hi hb
 have hcells : (Ex.mk op n s x).cells = [.int .i64 op, .int .i64 n, .str s, .sl 4 (Ex.rows x)] := rfl
 have hat : ∀ (cs : List UInt8) (y : Option (List V)), (wrB K i cs ++ (T ++ [y]))[K.length + T.length]? = some y := by
  intro cs y
  simp
 have htake : ∀ (cs : List UInt8) (y : Option (List V)), (wrB K i cs ++ (T ++ [y])).take (K.length + T.length) = wrB K i cs ++ T := by
  intro cs y
  rw [← List.append_assoc, List.take_append_of_le_length (by simp), List.take_of_length_le (by simp)]
 have hst := fun H => strong_eq op H
 have hrest : ∀ rest, (∃ pre c ops g ks, c_pq_expr.body = .dfr pre c ops g ks rest) → ∀ (cs : List UInt8), cs.length ≤ bs.length + 1 → ∀ (G : Heap → Option Heap) (φ : Fr), Fr.get φ 0 = .bptr i → Fr.get φ 4 = .ptr (K.length + T.length) 0 →
   M (eval tbl noExt) [.code rest, .dfn G [] (wrB K i bs ++ T).length] φ (wrB K i cs ++ (T ++ [some (Ex.mk op n s x).cells])) = (G (wrB K i (cs ++ (Ex.mk op n s x).bare) ++ (T ++ [some (Ex.mk op n s x).cells]))).bind fun H => some (.tup [], H.take (wrB K i bs ++ T).length) :=
  fun rest h cs hcs G φ h0 h4 => rest_eq h op n s x d hok ht hx K T i hi cs (by omega) G _ φ h0 h4
 have hbl := bare_length _ ht
 have hpre : ∀ v : Bool, decide (strong op < k) = v → ∃ φ1, exec (eval tbl noExt) (.seq (.reg [⟨some 4, none, .box (.t 1)⟩]) (.reg [⟨some 8, none, .fa 0 (.t 4)⟩, ⟨some 9, none, .ld none (.t 8)⟩, ⟨some 10, none, .callc n_print_strong [(.t 9)]⟩, ⟨some 11, none, .mv (.t 2)⟩, ⟨some 12, none, .ic .lss (.t 10) (.t 11)⟩])) (params 0 [.bptr i, .agg (Ex.mk op n s x).cells, .int .i64 k]) (wrB K i bs ++ T) = some (.normal, φ1, wrB K i bs ++ (T ++ [some (Ex.mk op n s x).cells])) ∧ Fr.get φ1 0 = .bptr i ∧ Fr.get φ1 4 = .ptr (K.length + T.length) 0 ∧ Fr.get φ1 12 = .bool v := by
  intro v hv
  refine ⟨_, by simp [exec_seq, exec_reg, runOps, hcells, hat, hst]; rfl, by simp, by simp, by simp [← hv]⟩
 by_cases hlt : strong op < k
 ·have hlti : (strong op : Int) < k := by omega
  have A := add1 hi (T ++ [some (Ex.mk op n s x).cells]) [40] bs (by simp; omega)
  obtain ⟨φ1, hp, p0, p4, p12⟩ := hpre true (by simpa using hlt)
  rw [hcells] at A
  have hops : ∃ φ2, exec (eval tbl noExt) (.seq (.reg [⟨some 13, none, .mv (.t 0)⟩, ⟨some 14, none, .bsl 1 [.str []] 1 [(0, 1, (.c (.str [40])))] false⟩, ⟨some 15, none, .call n_pq_add [(.t 13), (.t 14)]⟩]) (.reg [⟨some 16, none, .mv (.t 0)⟩, ⟨some 17, none, .bsl 1 [.str []] 1 [(0, 1, (.c (.str [41])))] false⟩])) φ1 (wrB K i bs ++ (T ++ [some (Ex.mk op n s x).cells])) = some (.normal, φ2, wrB K i (bs ++ [40]) ++ (T ++ [some (Ex.mk op n s x).cells])) ∧
    Fr.get φ2 0 = .bptr i ∧ Fr.get φ2 4 = .ptr (K.length + T.length) 0 ∧ ([16, 17].map fun k => (Fr.get φ2 k).strip) = [.bptr i, .sl 1 [[.str [41]]]] := by
   refine ⟨_, by simp [exec_seq, exec_reg, runOps, hcells, p0, A]; rfl, by simp [p0], by simp [p4], by simp [p0]⟩
  obtain ⟨φ2, ho, q0, q4, q16⟩ := hops
  have hB := padd_eq hi (T ++ [some (Ex.mk op n s x).cells]) [[41]] (bs ++ [40] ++ (Ex.mk op n s x).bare) (by simp; omega) (by simp)
  have E := eval_D1 (tbl := tbl) (ext := noExt) (f := n_pq_expr) rfl rfl t_pq_expr rfl rfl (g := n_pq_add) rfl rfl t_pq_add rfl rfl hp (by simpa using p12) ho
  rw [E, q16]
  refine (hrest _ ⟨_, _, _, _, _, rfl⟩ (bs ++ [40]) (by simp) _ φ2 q0 q4).trans ?_
  simp only [dfrCall]
  simp [tx] at hB
  simp [hB, hlt, par, htake, Ex.op]
 ·have hlti : ¬ (strong op : Int) < k := by omega
  obtain ⟨φ1, hp, p0, p4, p12⟩ := hpre false (by simpa using hlt)
  have E := eval_D0 (tbl := tbl) (ext := noExt) (f := n_pq_expr) rfl rfl t_pq_expr rfl rfl hp (by simpa using p12)
  rw [E, M_fin_dfn]
  refine (hrest _ ⟨_, _, _, _, _, rfl⟩ bs (by simp) some φ1 p0 p4).trans ?_
  simp [hlt, par, htake, Ex.op]
theorem expr_all : ∀ (m : Nat) (e : Ex), e.size ≤ m → ∀ d, e.ok d = true → e.txt → ExPr e := by
 intro m
 induction m with
 | zero => intro e h; cases e; simp only [Ex.size] at h; omega
 | succ m ih =>
  intro e h d hok ht
  obtain ⟨op, n, s, x⟩ := e
  refine expr_pr op n s x d hok ht (fun e he => ?_)
  simp only [Ex.size] at h
  have hok' := hok
  rw [Ex.ok] at hok'
  split at hok'
  ·cases hok'
  ·simp only [Bool.and_eq_true] at hok'
   have h2 := hok'.2
   rw [Ex.oks_all] at h2
   have := Ex.sizes_mem he
   refine ih e (by omega) (d - 1) (List.all_eq_true.1 h2 e he) ?_
   have : ∀ l : List Ex, Ex.txts l → ∀ e ∈ l, e.txt := by
    intro l
    induction l with
    | nil => intro _ e he; simp at he
    | cons y l ih2 =>
     intro h e he
     rcases List.mem_cons.1 he with rfl | he
     ·exact h.1
     ·exact ih2 h.2 e he
   exact this x ht.2 e he
theorem key_run : ((List.range 18).map fun (j : Nat) => run tbl noExt 30 n_print_key [.int .i64 ((j : Int) + 1)] []) = (List.range 18).map fun (j : Nat) => some (.str (keysT.getD j []), []) := by kernel_rfl
theorem key_eq (op : Int) (h1 : 1 ≤ op) (h2 : op ≤ 18) : eval tbl noExt n_print_key [.int .i64 op] [] = some (.str (keyT op), []) := by
 obtain ⟨j, rfl⟩ : ∃ j : Nat, op = (j : Int) + 1 := ⟨(op - 1).toNat, by omega⟩
 have hj : j < 18 := by omega
 have := congrArg (fun l => l[j]?) key_run
 simp [hj] at this
 have e : keyT ((j : Int) + 1) = keysT.getD j [] := by unfold keyT; congr 1; omega
 rw [e]
 simp
 exact (eval_iff ..).2 ⟨30, this⟩
theorem Repeat_eq (t : Nat) (ht : t ≤ 1000000) (H : Heap) : eval tbl noExt n_strings_Repeat [.str [9], .int .i64 t] H = some (.str (tabT t), H) := by
 rw [eval_X (e := xRepeat) rfl rfl]
 have h : (t : Int) ≤ 1000000 := by omega
 simp [xRepeat, tabT, h]
section
variable {K : Heap} {i : Nat} (hi : i < K.length)
include hi
theorem pexprs_loop (T : Heap) (l : List Ex) (hl : l.length ≤ 20000) (ht : Ex.txts l) (hx : ∀ e ∈ l, ExPr e) (X : List UInt8) :
  ∀ (r j : Nat) (acc : List UInt8) (T' : Heap) (φ : Fr), j + r = l.length → acc ++ exsT (decide (j = 0)) (l.drop j) = X → acc.length + 1410 * Ex.sizes (l.drop j) ≤ 80000000 → T'.take T.length = T → T.length ≤ T'.length →
   Fr.get φ 0 = .bptr i → Fr.get φ 6 = .sl 4 (Ex.rows l) → Fr.get φ 7 = .int .i64 l.length → Fr.get φ 8 = .int .i64 j →
   M (eval tbl noExt) [.code l_pq_exprs_0, .blk 0, .fin [] (K.length + T.length)] φ (wrB K i acc ++ T') = some (.tup [], wrB K i X ++ T) := by
 intro r
 induction r with
 | zero =>
  intro j acc T' φ hj hacc hb hT hT2 h0 h6 h7 h8
  have hlt : ¬ (j : Int) < l.length := by omega
  rw [List.drop_eq_nil_of_le (by omega)] at hacc
  simp [exsT] at hacc
  rw [l_pq_exprs_0, M_loop, ← l_pq_exprs_0, ← hacc]
  have htk : (wrB K i acc ++ T').take (K.length + T.length) = wrB K i acc ++ T := by
   rw [List.take_append, List.take_of_length_le (by simp)]
   simp [hT]
  simp [b_pq_exprs_0, h0, h6, h7, h8, hlt, htk]
 | succ r ih =>
  intro j acc T' φ hj hacc hb hT hT2 h0 h6 h7 h8
  have hlt : j < l.length := by omega
  have hlt' : (j : Int) < l.length := by omega
  obtain ⟨e, he⟩ : ∃ e, e = l[j] := ⟨_, rfl⟩
  have hmem : e ∈ l := by rw [he]; exact List.getElem_mem _
  have hrl : (Ex.rows l).length = l.length := by rw [Ex.rows_eq]; simp
  have hg : ∀ h : j < (Ex.rows l).length, (Ex.rows l)[j] = e.cells := fun _ => by simp [Ex.rows_eq, he]
  have hg' : (Ex.rows l)[j]? = some e.cells := by rw [List.getElem?_eq_getElem (by omega), hg]
  have hte : e.txt ∧ Ex.txts (l.drop (j + 1)) := by
   have : Ex.txts (l.drop j) := by
    have h := List.take_append_drop j l
    rw [← h] at ht
    exact (Ex.txts_append.1 ht).2
   rw [List.drop_eq_getElem_cons hlt, ← he] at this
   exact this
  rw [List.drop_eq_getElem_cons hlt, ← he] at hacc hb
  simp only [Ex.sizes] at hb
  have hbl := bare_length e hte.1
  have hs1 : 1 ≤ e.size := by cases e; simp only [Ex.size]; omega
  obtain ⟨op, n, s, x⟩ := e
  have hcells : (Ex.mk op n s x).cells = [.int .i64 op, .int .i64 n, .str s, .sl 4 (Ex.rows x)] := rfl
  rw [hcells] at hg hg'
  have e2 : IntKind.i64.wrap ((j : Int) + 1) = ((j + 1 : Nat) : Int) := by rw [w64] <;> omega
  have hat : ∀ (cs : List UInt8) (y : Option (List V)), (wrB K i cs ++ (T' ++ [y]))[K.length + T'.length]? = some y := by intro cs y; simp
  have hset : ∀ (cs : List UInt8) (y z : Option (List V)), (wrB K i cs ++ (T' ++ [y])).set (K.length + T'.length) z = wrB K i cs ++ (T' ++ [z]) := by
   intro cs y z
   rw [← List.append_assoc, List.set_append_right _ _ (by simp)]
   simp
  obtain ⟨cm, hcm⟩ : ∃ cm : List UInt8, cm = if j = 0 then [] else [44] := ⟨_, rfl⟩
  have hcml : cm.length ≤ 1 := by rw [hcm]; split <;> simp
  have next : ∀ φ', Fr.get φ' 0 = .bptr i → Fr.get φ' 6 = .sl 4 (Ex.rows l) → Fr.get φ' 7 = .int .i64 l.length → Fr.get φ' 8 = .int .i64 (j + 1 : Nat) →
    M (eval tbl noExt) [.code l_pq_exprs_0, .blk 0, .fin [] (K.length + T.length)] φ' (wrB K i (acc ++ cm ++ [32] ++ (Ex.mk op n s x).bare) ++ (T' ++ [some (Ex.mk op n s x).cells])) = some (.tup [], wrB K i X ++ T) := by
   intro φ' q0 q6 q7 q8
   refine ih (j + 1) _ _ φ' (by omega) ?_ ?_ ?_ ?_ q0 q6 q7 q8
   ·rw [← hacc, hcm]
    by_cases hj0 : j = 0
    ·simp [exsT, hj0]
    ·simp [exsT, hj0]
   ·simp; omega
   ·rw [List.take_append_of_le_length hT2]; exact hT
   ·simp; omega
  have A2 := add1 hi (T' ++ [some (Ex.mk op n s x).cells]) [32] (acc ++ cm) (by simp; omega)
  have C := hx _ hmem K (T' ++ [some (Ex.mk op n s x).cells]) i (acc ++ cm ++ [32]) 0 hi (by simp; omega)
  rw [hcells] at A2 C next
  rw [l_pq_exprs_0, M_loop, ← l_pq_exprs_0]
  have w1 : IntKind.i64.wrap 1 = 1 := w64 (by omega) (by omega)
  by_cases hj0 : j = 0
  ·subst hj0
   simp at hcm
   subst hcm
   simp [par] at A2 C next
   simp [b_pq_exprs_0, h0, h6, h7, h8, hlt, hlt', hrl, hg, hat, hset, A2, C, e2, w1]
   exact next _ (by simp [h0]) (by simp [h6]) (by simp [h7]) (by simp)
  ·have hj1 : (0 : Int) < j := by omega
   rw [if_neg hj0] at hcm
   subst hcm
   have A1 := add1 hi (T' ++ [some (Ex.mk op n s x).cells]) [44] acc (by simp; omega)
   rw [hcells] at A1
   simp [par] at A1 A2 C next
   simp [b_pq_exprs_0, h0, h6, h7, h8, hlt, hlt', hrl, hg, hat, hset, A1, A2, C, e2, hj0, hj1, Nat.pos_of_ne_zero hj0]
   exact next _ (by simp [h0]) (by simp [h6]) (by simp [h7]) (by simp)
theorem pexprs_eq (T : Heap) (l : List Ex) (hl : l.length ≤ 20000) (ht : Ex.txts l) (hx : ∀ e ∈ l, ExPr e) (bs : List UInt8) (hb : bs.length + 1410 * Ex.sizes l ≤ 80000000) :
  eval tbl noExt n_pq_exprs [.bptr i, .sl 4 (Ex.rows l)] (wrB K i bs ++ T) = some (.tup [], wrB K i (bs ++ exsT true l) ++ T) := by
 have hrl : (Ex.rows l).length = l.length := by rw [Ex.rows_eq]; simp
 rw [eval_M rfl rfl t_pq_exprs rfl]
 simp [c_pq_exprs, hrl]
 exact pexprs_loop hi T l hl ht hx _ l.length 0 bs T _ (by omega) (by simp) (by simpa using hb) (by simp) (Nat.le_refl _) (by simp) (by simp) (by simp) (by simp)
end
def StPr (e : Sm) : Prop := ∀ (K T : Heap) (i : Nat) (bs : List UInt8) (t : Nat), i < K.length → e.ok t = true → bs.length + 1600 * e.size ≤ 70000000 →
 eval tbl noExt n_pq_stmt [.bptr i, .agg e.cells, .int .i64 t] (wrB K i bs ++ T) = some (.tup [], wrB K i (bs ++ e.text t) ++ T)
def BlPr (l : List Sm) : Prop := ∀ (K T : Heap) (i : Nat) (bs : List UInt8) (t : Nat), i < K.length → t ≤ 8 → Sm.oks l (t + 1) = true → bs.length + 1600 * Sm.sizes l + 200 ≤ 70000000 →
 eval tbl noExt n_pq_block [.bptr i, .sl 7 (Sm.rows l), .int .i64 t] (wrB K i bs ++ T) = some (.tup [], wrB K i (bs ++ blkT l t) ++ T)
theorem blkT_len (l : List Sm) (t : Nat) (h : Sm.txts l) (ht : t ≤ 8) (ho : Sm.oks l (t + 1) = true) : (blkT l t).length ≤ 1500 * Sm.sizes l + 12 := by
 have := texts_len l (t + 1) h ho
 have h6 := tabT_length t
 unfold blkT
 simp only [List.length_append, List.length_cons, List.length_nil, h6]
 omega
theorem sm_txts_drop {l : List Sm} (ht : Sm.txts l) {j : Nat} {e : Sm} (h : l.drop j = e :: l.drop (j + 1)) : e.txt ∧ Sm.txts (l.drop (j + 1)) := by
 have : Sm.txts (l.drop j) := by
  have h := List.take_append_drop j l
  rw [← h] at ht
  exact (Sm.txts_append.1 ht).2
 rw [h] at this
 exact this
theorem pblock_loop (K T : Heap) (i : Nat) (hi : i < K.length) (l : List Sm) (hl : l.length ≤ 20000) (ht : Sm.txts l) (hx : ∀ e ∈ l, StPr e) (t : Nat) (ht8 : t ≤ 8) (bs : List UInt8) :
  ∀ (r j : Nat) (acc : List UInt8) (T' : Heap) (φ : Fr), j + r = l.length → acc ++ Sm.texts (l.drop j) (t + 1) ++ (tabT t ++ [125]) = bs ++ blkT l t → Sm.oks (l.drop j) (t + 1) = true → acc.length + 1600 * Sm.sizes (l.drop j) + 100 ≤ 70000000 → T'.take T.length = T → T.length ≤ T'.length →
   Fr.get φ 0 = .bptr i → Fr.get φ 2 = .int .i64 t → Fr.get φ 11 = .sl 7 (Sm.rows l) → Fr.get φ 12 = .int .i64 l.length → Fr.get φ 13 = .int .i64 j →
   M (eval tbl noExt) [.code l_pq_block_0, .blk 0, .code r_pq_block_0, .fin [] (K.length + T.length)] φ (wrB K i acc ++ T') = some (.tup [], wrB K i (bs ++ blkT l t) ++ T) := by
 intro r
 induction r with
 | zero =>
  intro j acc T' φ hj hacc hts hb hT hT2 h0 h2 h11 h12 h13
  have hlt : ¬ (j : Int) < l.length := by omega
  rw [List.drop_eq_nil_of_le (by omega)] at hacc
  simp only [Sm.texts, List.append_nil] at hacc
  have htb := tabT_length t
  have hR := Repeat_eq t (by omega) []
  have A := add2 hi T' (tabT t) [125] acc (by simp; omega)
  rw [hacc] at A
  rw [l_pq_block_0, M_loop, ← l_pq_block_0]
  have htk : ∀ cs : List UInt8, (wrB K i cs ++ T').take (K.length + T.length) = wrB K i cs ++ T := by
   intro cs
   rw [List.take_append, List.take_of_length_le (by simp)]
   simp [hT]
  simp [b_pq_block_0, r_pq_block_0, h0, h2, h11, h12, h13, hlt, hR, A, htk]
 | succ r ih =>
  intro j acc T' φ hj hacc hts hb hT hT2 h0 h2 h11 h12 h13
  have hlt : j < l.length := by omega
  have hlt' : (j : Int) < l.length := by omega
  obtain ⟨e, he⟩ : ∃ e, e = l[j] := ⟨_, rfl⟩
  have hmem : e ∈ l := by rw [he]; exact List.getElem_mem _
  have hrl : (Sm.rows l).length = l.length := by rw [Sm.rows_eq]; simp
  have hg : ∀ h : j < (Sm.rows l).length, (Sm.rows l)[j] = e.cells := fun _ => by simp [Sm.rows_eq, he]
  have hdr : l.drop j = e :: l.drop (j + 1) := by rw [List.drop_eq_getElem_cons hlt, ← he]
  have hte := sm_txts_drop ht hdr
  rw [hdr] at hacc hb hts
  simp only [Sm.sizes] at hb
  simp only [Sm.oks, Bool.and_eq_true] at hts
  simp only [Sm.texts] at hacc
  have htl := text_len e (t + 1) hte.1 hts.1
  have hs1 : 1 ≤ e.size := by cases e; simp only [Sm.size]; omega
  obtain ⟨op, s, n, ee, b, c, g⟩ := e
  have hcells : (Sm.mk op s n ee b c g).cells = [.int .i64 op, .str s, .int .i64 n, .sl 4 (Ex.rows ee), .sl 7 (Sm.rows b), .sl 7 (Sm.rows c), .bool g] := rfl
  rw [hcells] at hg
  have e2 : IntKind.i64.wrap ((j : Int) + 1) = ((j + 1 : Nat) : Int) := by rw [w64] <;> omega
  have et : IntKind.i64.wrap ((t : Int) + 1) = ((t + 1 : Nat) : Int) := by rw [w64] <;> omega
  have hat : ∀ (cs : List UInt8) (y : Option (List V)), (wrB K i cs ++ (T' ++ [y]))[K.length + T'.length]? = some y := by intro cs y; simp
  have hset : ∀ (cs : List UInt8) (y z : Option (List V)), (wrB K i cs ++ (T' ++ [y])).set (K.length + T'.length) z = wrB K i cs ++ (T' ++ [z]) := by
   intro cs y z
   rw [← List.append_assoc, List.set_append_right _ _ (by simp)]
   simp
  have htb := tabT_length (t + 1)
  have hR := Repeat_eq (t + 1) (by omega) []
  have next : ∀ φ', Fr.get φ' 0 = .bptr i → Fr.get φ' 2 = .int .i64 t → Fr.get φ' 11 = .sl 7 (Sm.rows l) → Fr.get φ' 12 = .int .i64 l.length → Fr.get φ' 13 = .int .i64 (j + 1 : Nat) →
    M (eval tbl noExt) [.code l_pq_block_0, .blk 0, .code r_pq_block_0, .fin [] (K.length + T.length)] φ' (wrB K i (acc ++ tabT (t + 1) ++ (Sm.mk op s n ee b c g).text (t + 1) ++ [10]) ++ (T' ++ [some (Sm.mk op s n ee b c g).cells])) = some (.tup [], wrB K i (bs ++ blkT l t) ++ T) := by
   intro φ' q0 q2 q11 q12 q13
   refine ih (j + 1) _ _ φ' (by omega) ?_ hts.2 ?_ ?_ ?_ q0 q2 q11 q12 q13
   ·rw [← hacc]; simp
   ·simp; omega
   ·rw [List.take_append_of_le_length hT2]; exact hT
   ·simp; omega
  have A1 := add1 hi (T' ++ [some (Sm.mk op s n ee b c g).cells]) (tabT (t + 1)) acc (by omega)
  have C := hx _ hmem K (T' ++ [some (Sm.mk op s n ee b c g).cells]) i (acc ++ tabT (t + 1)) (t + 1) hi hts.1 (by simp; omega)
  have A2 := add1 hi (T' ++ [some (Sm.mk op s n ee b c g).cells]) [10] (acc ++ tabT (t + 1) ++ (Sm.mk op s n ee b c g).text (t + 1)) (by simp; omega)
  rw [hcells] at A1 A2 C next
  simp at A1 A2 C next hR et
  rw [l_pq_block_0, M_loop, ← l_pq_block_0]
  simp [b_pq_block_0, h0, h2, h11, h12, h13, hlt, hlt', hrl, hg, hat, hset, hR, A1, A2, C, e2, et]
  exact next _ (by simp [h0]) (by simp [h2]) (by simp [h11]) (by simp [h12]) (by simp)
theorem block_pr (l : List Sm) (hl : l.length ≤ 20000) (ht : Sm.txts l) (hx : ∀ e ∈ l, StPr e) : BlPr l := by
 intro K T i bs t hi ht8 hts hb
 have hrl : (Sm.rows l).length = l.length := by rw [Sm.rows_eq]; simp
 have A := add1 hi T [32, 123, 10] bs (by simp; omega)
 rw [eval_M rfl rfl t_pq_block rfl]
 simp [c_pq_block, hrl, A]
 exact pblock_loop K T i hi l hl ht hx t ht8 bs l.length 0 (bs ++ [32, 123, 10]) T _ (by omega) (by simp [blkT]) (by simpa using hts) (by simp; omega) (by simp) (Nat.le_refl _) (by simp) (by simp) (by simp) (by simp) (by simp)
theorem stmt_pr (op n : Int) (s : List UInt8) (e : List Ex) (b c : List Sm) (g : Bool) (h1 : 1 ≤ op) (h18 : op ≤ 18) (hn : 0 ≤ n ∧ n ≤ 1000) (hs : s.length ≤ 300) (hel : e.length ≤ 20000) (hcl : c.length ≤ 20000) (het : Ex.txts e) (hbt : Sm.txts b) (hex : ∀ y ∈ e, ExPr y) (hb : BlPr b) (hc : BlPr c) : StPr (.mk op s n e b c g) := by
 intro K T i bs t hi hts hbd
 have hcells : (Sm.mk op s n e b c g).cells = [.int .i64 op, .str s, .int .i64 n, .sl 4 (Ex.rows e), .sl 7 (Sm.rows b), .sl 7 (Sm.rows c), .bool g] := rfl
 have hcrl : (Sm.rows c).length = c.length := by rw [Sm.rows_eq]; simp
 simp only [Sm.size] at hbd
 obtain ⟨ht8, _, _, hob, hoc⟩ := Sm.ok_parts hts
 have hat : ∀ (cs : List UInt8) (y : Option (List V)), (wrB K i cs ++ (T ++ [y]))[K.length + T.length]? = some y := by intro cs y; simp
 have htake : ∀ (cs : List UInt8) (y : Option (List V)), (wrB K i cs ++ (T ++ [y])).take (K.length + T.length) = wrB K i cs ++ T := by
  intro cs y
  rw [← List.append_assoc, List.take_append_of_le_length (by simp), List.take_of_length_le (by simp)]
 have hkl := key_length op
 have hml := midT_length op s n hs
 have hxl := exsT_length true e het
 have hbl := blkT_len b t hbt ht8 hob
 have hk := key_eq op h1 h18
 have htn := text_length n
 have hdg := digits_eq [] n (by omega) (by omega)
 have A1 := add1 hi (T ++ [some (Sm.mk op s n e b c g).cells]) (keyT op) bs (by omega)
 obtain ⟨cs, hcs⟩ : ∃ cs, cs = bs ++ keyT op ++ midT op s n := ⟨_, rfl⟩
 have hcsl : cs.length ≤ bs.length + 319 := by rw [hcs]; simp; omega
 have X1 := pexprs_eq hi (T ++ [some (Sm.mk op s n e b c g).cells]) e hel het hex cs (by omega)
 obtain ⟨ds, hds⟩ : ∃ ds, ds = cs ++ exsT true e := ⟨_, rfl⟩
 have hdsl : ds.length ≤ bs.length + 319 + 1400 * Ex.sizes e := by rw [hds]; simp; omega
 rw [← hds] at X1
 have B1 := hb K (T ++ [some (Sm.mk op s n e b c g).cells]) i ds t hi ht8 hob (by omega)
 obtain ⟨es, hes⟩ : ∃ es, es = ds ++ blkT b t := ⟨_, rfl⟩
 have hesl : es.length ≤ bs.length + 331 + 1400 * Ex.sizes e + 1500 * Sm.sizes b := by rw [hes]; simp; omega
 rw [← hes] at B1
 have E1 := add1 hi (T ++ [some (Sm.mk op s n e b c g).cells]) [32, 101, 108, 115, 101] es (by simp; omega)
 have C1 := hc K (T ++ [some (Sm.mk op s n e b c g).cells]) i (es ++ [32, 101, 108, 115, 101]) t hi ht8 hoc (by simp; omega)
 have F1 := add1 hi (T ++ [some (Sm.mk op s n e b c g).cells]) [32, 99, 111, 109, 109, 105, 116] es (by simp; omega)
 have G1 := add1 hi (T ++ [some (Sm.mk op s n e b c g).cells]) [59] (es ++ [32, 99, 111, 109, 109, 105, 116]) (by simp; omega)
 have G2 := add1 hi (T ++ [some (Sm.mk op s n e b c g).cells]) [59] es (by simp; omega)
 have G3 := add1 hi (T ++ [some (Sm.mk op s n e b c g).cells]) [59] ds (by simp; omega)
 have hfin : bs ++ (Sm.mk op s n e b c g).text t = ds ++ (if op = 13 ∨ op = 14 then blkT b t ++ (if c.length = 0 then [] else [32, 101, 108, 115, 101] ++ blkT c t) else (if op = 16 then blkT b t ++ (if g then [32, 99, 111, 109, 109, 105, 116] else []) else []) ++ [59]) := by
  rw [hds, hcs]
  simp only [Sm.text, blkT, List.append_assoc]
 rw [hfin]
 have L : [K.length + T.length] = [K.length + T.length] := rfl
 rw [eval_M rfl rfl t_pq_stmt rfl]
 rw [hcells] at A1 X1 B1 E1 C1 F1 G1 G2 G3
 simp [hes] at B1 E1 C1 F1 G1 G2
 have lts := lt_pq_add
 have ltx := lt_pq_exprs
 have ltb := lt_pq_block
 by_cases h12 : op = 12
 ·subst h12
  have M1 := add3 hi (T ++ [some [.int .i64 12, .str s, .int .i64 n, .sl 4 (Ex.rows e), .sl 7 (Sm.rows b), .sl 7 (Sm.rows c), .bool g]]) [32] s [32, 61] (bs ++ keyT 12) (by simp; omega)
  have hcs' : bs ++ keyT 12 ++ ([32] ++ (s ++ [32, 61])) = cs := by rw [hcs]; simp [midT]
  rw [hcs'] at M1
  simp [c_pq_stmt, hcells, hat, hk, lts, ltx, ltb, A1, M1, X1, G3, htake]
 by_cases h15 : op = 15
 ·subst h15
  have M1 := add2 hi (T ++ [some [.int .i64 15, .str s, .int .i64 n, .sl 4 (Ex.rows e), .sl 7 (Sm.rows b), .sl 7 (Sm.rows c), .bool g]]) [32] s (bs ++ keyT 15) (by simp; omega)
  have hcs' : bs ++ keyT 15 ++ ([32] ++ s) = cs := by rw [hcs]; simp [midT]
  rw [hcs'] at M1
  simp [c_pq_stmt, hcells, hat, hk, lts, ltx, ltb, A1, M1, X1, G3, htake]
 by_cases h14 : op = 14
 ·subst h14
  have M1 := add2 hi (T ++ [some [.int .i64 14, .str s, .int .i64 n, .sl 4 (Ex.rows e), .sl 7 (Sm.rows b), .sl 7 (Sm.rows c), .bool g]]) [32] (text n) (bs ++ keyT 14) (by simp; omega)
  have hcs' : bs ++ keyT 14 ++ ([32] ++ text n) = cs := by rw [hcs]; simp [midT]
  rw [hcs'] at M1
  by_cases hc0 : c.length = 0
  ·simp [c_pq_stmt, hcells, hat, hk, lts, ltx, ltb, hdg, A1, M1, X1, B1, hcrl, hc0, htake]
  ·have hc1 : (0 : Int) < c.length := by omega
   simp [c_pq_stmt, hcells, hat, hk, lts, ltx, ltb, hdg, A1, M1, X1, B1, hcrl, hc0, hc1, Nat.pos_of_ne_zero hc0, E1, C1, htake]
 have hcs' : cs = bs ++ keyT op := by rw [hcs]; simp [midT, h12, h15, h14]
 rw [hcs'] at X1
 by_cases h13 : op = 13
 ·subst h13
  by_cases hc0 : c.length = 0
  ·simp [c_pq_stmt, hcells, hat, hk, lts, ltx, ltb, A1, X1, B1, hcrl, hc0, htake]
  ·have hc1 : (0 : Int) < c.length := by omega
   simp [c_pq_stmt, hcells, hat, hk, lts, ltx, ltb, A1, X1, B1, hcrl, hc0, hc1, Nat.pos_of_ne_zero hc0, E1, C1, htake]
 by_cases h16 : op = 16
 ·subst h16
  cases g with
  | true => simp [c_pq_stmt, hcells, hat, hk, lts, ltx, ltb, A1, X1, B1, F1, G1, htake]
  | false => simp [c_pq_stmt, hcells, hat, hk, lts, ltx, ltb, A1, X1, B1, G2, htake]
 simp [c_pq_stmt, hcells, hat, hk, lts, ltx, ltb, A1, X1, G3, htake, h12, h13, h14, h15, h16]
theorem exs_pr {l : List Ex} {d : Nat} (ho : Ex.oks l d = true) (ht : Ex.txts l) : ∀ e ∈ l, ExPr e := fun e he => by
 rw [Ex.oks_all] at ho
 exact expr_all _ e (Nat.le_refl _) d (List.all_eq_true.1 ho e he) (ex_txts_mem ht e he)
theorem blocks_pr : ∀ (m : Nat) (l : List Sm), Sm.sizes l ≤ m → m ≤ 20000 → Sm.txts l → ∀ d, Sm.oks l d = true → BlPr l := by
 intro m
 induction m with
 | zero =>
  intro l h hm ht d ho
  refine block_pr l (by have := Sm.sizes_ge l; omega) ht (fun e he => ?_)
  have := Sm.sizes_mem he
  have : 1 ≤ e.size := by cases e; simp only [Sm.size]; omega
  omega
 | succ m ih =>
  intro l h hm ht d ho
  refine block_pr l (by have := Sm.sizes_ge l; omega) ht (fun e he => ?_)
  have hsz := Sm.sizes_mem he
  have het := sm_txts_mem ht e he
  rw [Sm.oks_all] at ho
  have heo := List.all_eq_true.1 ho e he
  obtain ⟨op, s, n, ee, b, c, g⟩ := e
  obtain ⟨h8, hsh, htx, hob, hoc⟩ := Sm.ok_parts heo
  simp only [Sm.size] at hsz
  simp only [Sm.txt] at het
  unfold shapeOk at hsh
  cases hex : exprs op with
  | none => rw [hex] at hsh; cases hsh
  | some k =>
  rw [hex] at hsh
  simp only [Bool.and_eq_true, decide_eq_true_eq] at hsh
  obtain ⟨hk, _, hn0, hn16, _, _, _, _, hoe⟩ := hsh
  have hop := exprs_some hex
  have q1 := Ex.sizes_ge ee
  have q2 := Sm.sizes_ge c
  exact stmt_pr op n s ee b c g hop.1 hop.2 ⟨hn0, by omega⟩ het.1 (by omega) (by omega) het.2.1 het.2.2.1 (exs_pr hoe het.2.1) (ih b (by omega) (by omega) het.2.2.1 _ hob) (ih c (by omega) (by omega) het.2.2.2 _ hoc)
structure PrOk (p : Pg) : Prop where
 fine : p.Fine
 ok : p.ok = true
section
variable {p : Pg} (hp : PrOk p)
include hp
theorem PrOk.parts : p.procs.length ≤ 16 ∧ p.oracles.length ≤ 16 ∧ (∀ x ∈ p.procs, x.1.length ≤ 300 ∧ Sm.txts x.2 ∧ Sm.oks x.2 1 = true ∧ Sm.sizes x.2 ≤ p.size ∧ BlPr x.2) ∧
  (∀ x ∈ p.oracles, x.1.length ≤ 300 ∧ x.2.txt ∧ x.2.ok 8 = true ∧ x.2.size ≤ p.size ∧ ExPr x.2) ∧ (Sm.txts p.main ∧ Sm.oks p.main 1 = true ∧ BlPr p.main) ∧ Sm.txts p.recover ∧ Sm.oks p.recover 1 = true ∧ BlPr p.recover := by
 have h := hp.ok
 have hs := hp.fine.size
 obtain ⟨t1, t2, t3, t4⟩ := hp.fine.txt
 simp only [Pg.ok, Bool.and_eq_true, decide_eq_true_eq, List.all_eq_true] at h
 obtain ⟨h1, h2, _, h3, h4, h5, h6⟩ := h
 refine ⟨h1, h2, fun x hx => ?_, fun x hx => ?_, ⟨t2, h5, ?_⟩, t3, h6, ?_⟩
 ·have hb : Sm.sizes x.2 ≤ p.size := by
   have := p.parts_size
   have hm : x.2 ∈ p.parts := by simp only [Pg.parts, List.mem_append, List.mem_map]; exact .inl ⟨x, hx, rfl⟩
   have := sizes_flatten hm
   omega
  exact ⟨(t1 x hx).1, (t1 x hx).2, (h3 x hx).2, hb, blocks_pr 20000 _ (by omega) (Nat.le_refl _) (t1 x hx).2 1 (h3 x hx).2⟩
 ·have hb : x.2.size ≤ p.size := by
   have := p.size_eq
   have hm : x.2 ∈ p.exprs := by simp only [Pg.exprs, List.mem_map]; exact ⟨x, hx, rfl⟩
   have := Ex.sizes_mem hm
   omega
  exact ⟨(t4 x hx).1, (t4 x hx).2, (h4 x hx).2, hb, expr_all _ _ (Nat.le_refl _) 8 (h4 x hx).2 (t4 x hx).2⟩
 ·exact blocks_pr 20000 _ (by simp only [Pg.size] at hs; omega) (Nat.le_refl _) t2 1 h5
 ·exact blocks_pr 20000 _ (by simp only [Pg.size] at hs; omega) (Nat.le_refl _) t3 1 h6
theorem PrOk.proc_len {x : List UInt8 × List Sm} (hx : x ∈ p.procs) : (procT x).length ≤ 1500 * Sm.sizes x.2 + 330 ∧ Sm.sizes x.2 ≤ 19000 := by
 obtain ⟨_, _, h, _⟩ := hp.parts
 obtain ⟨a, b, c, d, _⟩ := h x hx
 have := blkT_len x.2 0 b (by omega) c
 have := hp.fine.size
 unfold procT
 simp only [List.length_append, List.length_cons, List.length_nil]
 omega
theorem Program_loop0 (Z : Option (V × Heap)) (k : List Item) (v1 : V) {K : Heap} {i : Nat} (hi : i < K.length) (bs : List UInt8)
  (hk : ∀ (φ : Fr) (T' : Heap), Fr.get φ 1 = v1 → Fr.get φ 4 = .bptr i → M (eval tbl noExt) k φ (wrB K i (bs ++ p.procs.flatMap procT) ++ T') = Z) :
  ∀ (r j : Nat) (acc : List UInt8) (T' : Heap) (φ : Fr), j + r = p.procs.length → acc ++ (p.procs.drop j).flatMap procT = bs ++ p.procs.flatMap procT → acc.length + 1600 * ((p.procs.drop j).map fun x => 1 + Sm.sizes x.2).sum ≤ 60000000 →
   Fr.get φ 1 = v1 → Fr.get φ 4 = .bptr i → Fr.get φ 13 = .sl 2 p.pcells → Fr.get φ 14 = .int .i64 p.procs.length → Fr.get φ 15 = .int .i64 j →
   M (eval tbl noExt) (.code l_pP_0 :: .blk 0 :: k) φ (wrB K i acc ++ T') = Z := by
 obtain ⟨hpl, _, hpr, _⟩ := hp.parts
 intro r
 induction r with
 | zero =>
  intro j acc T' φ hj hacc hb h1 h4 h13 h14 h15
  have hlt : ¬ (j : Int) < p.procs.length := by omega
  rw [List.drop_eq_nil_of_le (by omega)] at hacc
  simp only [List.flatMap_nil, List.append_nil] at hacc
  rw [l_pP_0, M_loop, ← l_pP_0, hacc]
  simp [b_pP_0, h1, h4, h13, h14, h15, hlt]
  exact hk _ T' (by simp [h1]) (by simp [h4])
 | succ r ih =>
  intro j acc T' φ hj hacc hb h1 h4 h13 h14 h15
  have hlt : j < p.procs.length := by omega
  have hlt' : (j : Int) < p.procs.length := by omega
  obtain ⟨e, he⟩ : ∃ e, e = p.procs[j] := ⟨_, rfl⟩
  have hmem : e ∈ p.procs := by rw [he]; exact List.getElem_mem _
  have hrl := p.pcells_len
  have hg : ∀ h : j < p.pcells.length, p.pcells[j] = [.str e.1, .sl 7 (Sm.rows e.2)] := fun _ => by simp [Pg.pcells, he]
  have hdr : p.procs.drop j = e :: p.procs.drop (j + 1) := by rw [List.drop_eq_getElem_cons hlt, ← he]
  rw [hdr] at hacc hb
  simp only [List.map_cons, List.sum_cons] at hb
  rw [List.flatMap_cons] at hacc
  obtain ⟨n1, n2, n3, n4, hB⟩ := hpr e hmem
  have hpl2 := blkT_len e.2 0 n2 (by omega) n3
  have e2 : IntKind.i64.wrap ((j : Int) + 1) = ((j + 1 : Nat) : Int) := by rw [w64] <;> omega
  have hat : ∀ (cs : List UInt8) (y : Option (List V)), (wrB K i cs ++ (T' ++ [y]))[K.length + T'.length]? = some y := by intro cs y; simp
  have hset : ∀ (cs : List UInt8) (y z : Option (List V)), (wrB K i cs ++ (T' ++ [y])).set (K.length + T'.length) z = wrB K i cs ++ (T' ++ [z]) := by
   intro cs y z
   rw [← List.append_assoc, List.set_append_right _ _ (by simp)]
   simp
  have A1 := add2 hi (T' ++ [some [.str e.1, .sl 7 (Sm.rows e.2)]]) [112, 114, 111, 99, 32] e.1 acc (by simp; omega)
  have C := hB K (T' ++ [some [.str e.1, .sl 7 (Sm.rows e.2)]]) i (acc ++ ([112, 114, 111, 99, 32] ++ e.1)) 0 hi (by omega) n3 (by simp; omega)
  have A2 := add1 hi (T' ++ [some [.str e.1, .sl 7 (Sm.rows e.2)]]) [10] (acc ++ ([112, 114, 111, 99, 32] ++ e.1) ++ blkT e.2 0) (by simp; omega)
  have next : ∀ φ', Fr.get φ' 1 = v1 → Fr.get φ' 4 = .bptr i → Fr.get φ' 13 = .sl 2 p.pcells → Fr.get φ' 14 = .int .i64 p.procs.length → Fr.get φ' 15 = .int .i64 (j + 1 : Nat) →
    M (eval tbl noExt) (.code l_pP_0 :: .blk 0 :: k) φ' (wrB K i (acc ++ ([112, 114, 111, 99, 32] ++ e.1) ++ blkT e.2 0 ++ [10]) ++ (T' ++ [some [.str e.1, .sl 7 (Sm.rows e.2)]])) = Z := by
   intro φ' q1 q4 q13 q14 q15
   refine ih (j + 1) _ _ φ' (by omega) ?_ ?_ q1 q4 q13 q14 q15
   ·rw [← hacc]; simp [procT]
   ·simp only [List.length_append, List.length_cons, List.length_nil]; omega
  simp at A1 A2 C next
  rw [l_pP_0, M_loop, ← l_pP_0]
  simp [b_pP_0, h1, h4, h13, h14, h15, hlt, hlt', hrl, hg, hat, hset, A1, A2, C, e2]
  exact next _ (by simp [h1]) (by simp [h4]) (by simp [h13]) (by simp [h14]) (by simp)
theorem Program_loop1 (Z : Option (V × Heap)) (k : List Item) {K : Heap} {i : Nat} (hi : i < K.length) (bs : List UInt8)
  (hk : ∀ (φ : Fr) (T' : Heap), Fr.get φ 4 = .bptr i → M (eval tbl noExt) k φ (wrB K i (bs ++ p.oracles.flatMap oraT) ++ T') = Z) :
  ∀ (r j : Nat) (acc : List UInt8) (T' : Heap) (φ : Fr), j + r = p.oracles.length → acc ++ (p.oracles.drop j).flatMap oraT = bs ++ p.oracles.flatMap oraT → acc.length + 1600 * ((p.oracles.drop j).map fun x => 1 + x.2.size).sum ≤ 70000000 →
   Fr.get φ 4 = .bptr i → Fr.get φ 48 = .sl 5 p.ocells → Fr.get φ 49 = .int .i64 p.oracles.length → Fr.get φ 50 = .int .i64 j →
   M (eval tbl noExt) (.code l_pP_1 :: .blk 2 :: k) φ (wrB K i acc ++ T') = Z := by
 obtain ⟨_, hpl, _, hpr, _⟩ := hp.parts
 intro r
 induction r with
 | zero =>
  intro j acc T' φ hj hacc hb h4 h13 h14 h15
  have hlt : ¬ (j : Int) < p.oracles.length := by omega
  rw [List.drop_eq_nil_of_le (by omega)] at hacc
  simp only [List.flatMap_nil, List.append_nil] at hacc
  rw [l_pP_1, M_loop, ← l_pP_1, hacc]
  simp [b_pP_1, h4, h13, h14, h15, hlt]
  exact hk _ T' (by simp [h4])
 | succ r ih =>
  intro j acc T' φ hj hacc hb h4 h13 h14 h15
  have hlt : j < p.oracles.length := by omega
  have hlt' : (j : Int) < p.oracles.length := by omega
  obtain ⟨x, he⟩ : ∃ e, e = p.oracles[j] := ⟨_, rfl⟩
  have hmem : x ∈ p.oracles := by rw [he]; exact List.getElem_mem _
  have hrl := p.ocells_len
  have hg : ∀ h : j < p.ocells.length, p.ocells[j] = .str x.1 :: x.2.cells := fun _ => by simp [Pg.ocells, he]
  have hdr : p.oracles.drop j = x :: p.oracles.drop (j + 1) := by rw [List.drop_eq_getElem_cons hlt, ← he]
  rw [hdr] at hacc hb
  simp only [List.map_cons, List.sum_cons] at hb
  rw [List.flatMap_cons] at hacc
  obtain ⟨n1, n2, n3, n4, hB⟩ := hpr x hmem
  have hpl2 := bare_length x.2 n2
  obtain ⟨nm, e⟩ := x
  obtain ⟨op, n, s, y⟩ := e
  have hcells : (Ex.mk op n s y).cells = [.int .i64 op, .int .i64 n, .str s, .sl 4 (Ex.rows y)] := rfl
  simp only [hcells] at hg
  dsimp only at *
  have e2 : IntKind.i64.wrap ((j : Int) + 1) = ((j + 1 : Nat) : Int) := by rw [w64] <;> omega
  have hat : ∀ (cs : List UInt8) (y : Option (List V)), (wrB K i cs ++ (T' ++ [y]))[K.length + T'.length]? = some y := by intro cs y; simp
  have hset : ∀ (cs : List UInt8) (y z : Option (List V)), (wrB K i cs ++ (T' ++ [y])).set (K.length + T'.length) z = wrB K i cs ++ (T' ++ [z]) := by
   intro cs y z
   rw [← List.append_assoc, List.set_append_right _ _ (by simp)]
   simp
  have A1 := add3 hi (T' ++ [some (.str nm :: (Ex.mk op n s y).cells)]) [111, 114, 97, 99, 108, 101, 32] nm [58, 32] acc (by simp; omega)
  have C := hB K (T' ++ [some (.str nm :: (Ex.mk op n s y).cells)]) i (acc ++ ([111, 114, 97, 99, 108, 101, 32] ++ (nm ++ [58, 32]))) 0 hi (by simp; omega)
  have A2 := add1 hi (T' ++ [some (.str nm :: (Ex.mk op n s y).cells)]) [59, 10] (acc ++ ([111, 114, 97, 99, 108, 101, 32] ++ (nm ++ [58, 32])) ++ (Ex.mk op n s y).bare) (by simp; omega)
  have next : ∀ φ', Fr.get φ' 4 = .bptr i → Fr.get φ' 48 = .sl 5 p.ocells → Fr.get φ' 49 = .int .i64 p.oracles.length → Fr.get φ' 50 = .int .i64 (j + 1 : Nat) →
    M (eval tbl noExt) (.code l_pP_1 :: .blk 2 :: k) φ' (wrB K i (acc ++ ([111, 114, 97, 99, 108, 101, 32] ++ (nm ++ [58, 32])) ++ (Ex.mk op n s y).bare ++ [59, 10]) ++ (T' ++ [some (.str nm :: (Ex.mk op n s y).cells)])) = Z := by
   intro φ' q4 q13 q14 q15
   refine ih (j + 1) _ _ φ' (by omega) ?_ ?_ q4 q13 q14 q15
   ·rw [← hacc]; simp [oraT]
   ·simp only [List.length_append, List.length_cons, List.length_nil]; omega
  rw [hcells] at A1 A2 C next
  simp [par] at A1 A2 C next
  rw [l_pP_1, M_loop, ← l_pP_1]
  simp [b_pP_1, h4, h13, h14, h15, hlt, hlt', hrl, hg, hat, hset, A1, A2, C, e2]
  exact next _ (by simp [h4]) (by simp [h13]) (by simp [h14]) (by simp)
theorem PrOk.procs_len : (p.procs.flatMap procT).length ≤ 1500 * p.psize := by
 have h := fun x (hx : x ∈ p.procs) => (hp.proc_len hx).1
 have key : ∀ l : List (List UInt8 × List Sm), (∀ x ∈ l, (procT x).length ≤ 1500 * Sm.sizes x.2 + 330) → (l.flatMap procT).length ≤ 1500 * (l.map fun x => 1 + Sm.sizes x.2).sum := by
  intro l
  induction l with
  | nil => simp
  | cons x l ih =>
   intro h
   have h1 := h x (by simp)
   have h2 := ih (fun y hy => h y (by simp [hy]))
   simp only [List.flatMap_cons, List.length_append, List.map_cons, List.sum_cons]
   omega
 exact key _ h
end
theorem PProgram_eq (p : Pg) (hp : p.Fine) (H : Heap) : eval tbl noExt n_pP [.agg p.cells] H = some (.tup [.str (if p.ok then p.text else []), .bool p.ok], H) := by
 have hR := Right_eq p hp []
 have hcells : p.cells = [.sl 2 p.pcells, .sl 7 (Sm.rows p.main), .sl 7 (Sm.rows p.recover), .sl 5 p.ocells] := rfl
 have hsz := hp.size
 rw [eval_M rfl rfl t_pP rfl]
 cases hok : p.ok with
 | false =>
  rw [hok] at hR
  rw [hcells] at hR ⊢
  simp [c_pP, get0, hR]
 | true =>
 have hpo : PrOk p := ⟨hp, hok⟩
 rw [hok] at hR
 obtain ⟨hpl, hol, hpr, hor, ⟨m1, m2, hM⟩, r1, r2, hRc⟩ := hpo.parts
 have hpsz : p.psize + Sm.sizes p.main + Sm.sizes p.recover + p.osize ≤ 19000 := hsz
 have hprl := hpo.procs_len
 have hrl := p.pcells_len
 have hol2 := p.ocells_len
 have hrr : (Sm.rows p.recover).length = p.recover.length := by rw [Sm.rows_eq]; simp
 obtain ⟨K, hK⟩ : ∃ K, K = H ++ [some p.cells, some [.bld bP bE []]] := ⟨_, rfl⟩
 have hi : H.length + 1 < K.length := by rw [hK]; simp
 have hK0 : wrB K (H.length + 1) [] = K := by
  unfold wrB
  rw [hK]
  exact set1 H _ _ _ []
 have hbox : ∀ (cs : List UInt8) (T : Heap), (wrB K (H.length + 1) cs ++ T)[H.length]? = some (some p.cells) := by
  intro cs T
  unfold wrB
  rw [hK, set1, List.append_assoc]
  exact get0 _ _ _
 have htk : ∀ T : Heap, ((K ++ T).set (H.length + 1) none).take H.length = H := by
  intro T
  rw [hK, List.append_assoc]
  simp only [List.cons_append, List.nil_append]
  rw [set1, List.take_append_of_le_length (Nat.le_refl _), List.take_length]
 have lts := lt_pq_add
 have ltb := lt_pq_block
 obtain ⟨a0, ha0⟩ : ∃ a0, a0 = p.procs.flatMap procT := ⟨_, rfl⟩
 have l0 : a0.length ≤ 28500000 := by rw [ha0]; omega
 have bl1 := blkT_len p.main 0 m1 (by omega) m2
 have bl2 := blkT_len p.recover 0 r1 (by omega) r2
 obtain ⟨a1, ha1⟩ : ∃ a1, a1 = a0 ++ ([109, 97, 105, 110] ++ blkT p.main 0 ++ [10]) := ⟨_, rfl⟩
 have l1 : a1.length ≤ a0.length + 1500 * Sm.sizes p.main + 20 := by rw [ha1]; simp; omega
 obtain ⟨a2, ha2⟩ : ∃ a2, a2 = a1 ++ (if p.recover.length = 0 then [] else [114, 101, 99, 111, 118, 101, 114] ++ blkT p.recover 0 ++ [10]) := ⟨_, rfl⟩
 have l2 : a2.length ≤ a1.length + 1500 * Sm.sizes p.recover + 25 := by rw [ha2]; split <;> simp <;> omega
 have htext : p.text = a2 ++ p.oracles.flatMap oraT := by rw [ha2, ha1, ha0]; simp [Pg.text]
 have e0 : p.osize = (p.oracles.map fun x => 1 + x.2.size).sum := rfl
 have e1 : p.psize = (p.procs.map fun x => 1 + Sm.sizes x.2).sum := rfl
 have last : ∀ (φ : Fr) (T' : Heap), Fr.get φ 4 = .bptr (H.length + 1) → M (eval tbl noExt) [.code r_pP_0, .fin [.t 2, .t 3] H.length] φ (wrB K (H.length + 1) p.text ++ T') = some (.tup [.str p.text, .bool true], H) := by
  intro φ T' h4
  have hS := PString_eq hi p.text T'
  simp [r_pP_0, h4, hS, htk]
 have tail2 : ∀ (φ : Fr) (T' : Heap), Fr.get φ 4 = .bptr (H.length + 1) → Fr.get φ 48 = .sl 5 p.ocells → Fr.get φ 49 = .int .i64 p.oracles.length → Fr.get φ 50 = .int .i64 0 →
   M (eval tbl noExt) [.code l_pP_1, .blk 2, .code r_pP_0, .fin [.t 2, .t 3] H.length] φ (wrB K (H.length + 1) a2 ++ T') = some (.tup [.str p.text, .bool true], H) := by
  intro φ T' h4 h48 h49 h50
  refine Program_loop1 hpo _ _ hi a2 (fun φ' T'' q4 => ?_) p.oracles.length 0 a2 T' _ (by omega) (by simp) (by simp only [List.drop_zero]; omega) h4 h48 h49 h50
  rw [← htext]
  exact last φ' T'' q4
 have tail1 : ∀ (φ : Fr) (T' : Heap), Fr.get φ 1 = .ptr H.length 0 → Fr.get φ 4 = .bptr (H.length + 1) → M (eval tbl noExt) [.code r_pP_1, .fin [.t 2, .t 3] H.length] φ (wrB K (H.length + 1) a0 ++ T') = some (.tup [.str p.text, .bool true], H) := by
  intro φ T' h1 h4
  have A1 := add1 hi T' [109, 97, 105, 110] a0 (by simp; omega)
  have B1 := hM K T' (H.length + 1) (a0 ++ [109, 97, 105, 110]) 0 hi (by omega) m2 (by simp; omega)
  have A2 := add1 hi T' [10] (a0 ++ [109, 97, 105, 110] ++ blkT p.main 0) (by simp; omega)
  have ea : a0 ++ [109, 97, 105, 110] ++ blkT p.main 0 ++ [10] = a1 := by rw [ha1]; simp
  rw [ea] at A2
  simp at A1 B1 A2
  by_cases hr0 : p.recover.length = 0
  ·have ea2 : a2 = a1 := by rw [ha2, if_pos hr0]; simp
   rw [ea2] at tail2
   simp [r_pP_1, h1, h4, hbox, hcells, lts, ltb, A1, B1, A2, hrr, hr0, hol2]
   exact tail2 _ T' (by simp [h4]) (by simp) (by simp) (by simp)
  ·have A3 := add1 hi T' [114, 101, 99, 111, 118, 101, 114] a1 (by simp; omega)
   have B2 := hRc K T' (H.length + 1) (a1 ++ [114, 101, 99, 111, 118, 101, 114]) 0 hi (by omega) r2 (by simp; omega)
   have A4 := add1 hi T' [10] (a1 ++ [114, 101, 99, 111, 118, 101, 114] ++ blkT p.recover 0) (by simp; omega)
   have eb : a1 ++ [114, 101, 99, 111, 118, 101, 114] ++ blkT p.recover 0 ++ [10] = a2 := by rw [ha2, if_neg hr0]; simp
   rw [eb] at A4
   simp at A3 B2 A4
   have hr1 : (0 : Int) < p.recover.length := by omega
   simp [r_pP_1, h1, h4, hbox, hcells, lts, ltb, A1, B1, A2, A3, B2, A4, hrr, hr0, hr1, Nat.pos_of_ne_zero hr0, hol2]
   exact tail2 _ T' (by simp [h4]) (by simp) (by simp) (by simp)
 have first : ∀ φ : Fr, Fr.get φ 1 = .ptr H.length 0 → Fr.get φ 4 = .bptr (H.length + 1) → Fr.get φ 13 = .sl 2 p.pcells → Fr.get φ 14 = .int .i64 p.procs.length → Fr.get φ 15 = .int .i64 0 →
   M (eval tbl noExt) [.code l_pP_0, .blk 0, .code r_pP_1, .fin [.t 2, .t 3] H.length] φ (H ++ [some p.cells, some [.bld bP bE []]]) = some (.tup [.str p.text, .bool true], H) := by
  intro φ h1 h4 h13 h14 h15
  have := Program_loop0 hpo (some (.tup [.str p.text, .bool true], H)) [.code r_pP_1, .fin [.t 2, .t 3] H.length] (.ptr H.length 0) hi [] (fun φ' T' q1 q4 => by
   rw [List.nil_append, ← ha0]
   exact tail1 φ' T' q1 q4) p.procs.length 0 [] [] φ (by omega) (by simp) (by simp only [List.drop_zero, List.length_nil]; omega) h1 h4 h13 h14 h15
  rw [hK0, List.append_nil, hK] at this
  exact this
 rw [hcells] at hR first ⊢
 simp [c_pP, get0, hR, hrl]
 exact first _ (by simp) (by simp) (by simp) (by simp) (by simp)
def solo (e : Ex) : Pg := ⟨[], [], [], [([97], e)]⟩
theorem solo_ok (e : Ex) : (solo e).ok = e.ok 8 := by
 have h : isName [97] = true := by kernel_rfl
 have h2 : (solo e).flats.length ≤ 256 := by simp [solo, Pg.flats, Pg.parts, Sm.flats]
 unfold Pg.ok
 rw [decide_eq_true h2]
 simp [h, Sm.oks, solo]
theorem PExpr_eq (e : Ex) (he : e.txt) (hs : e.size ≤ 10000) (H : Heap) : eval tbl noExt n_print_Expr [.agg e.cells] H = some (.tup [.str (if e.ok 8 then e.bare else []), .bool (e.ok 8)], H) := by
 have hf : (solo e).Fine := by
  refine ⟨?_, ?_⟩
  ·simp [solo, Pg.size, Pg.psize, Pg.osize, Sm.sizes]; omega
  ·simp [solo, Pg.txt, Sm.txts, he]
 have hR := Right_eq (solo e) hf []
 rw [solo_ok] at hR
 have hX := fun h : e.ok 8 = true => expr_all _ e (Nat.le_refl _) 8 h he
 obtain ⟨op, n, s, x⟩ := e
 have hcells : (Ex.mk op n s x).cells = [.int .i64 op, .int .i64 n, .str s, .sl 4 (Ex.rows x)] := rfl
 have hc2 : (solo (Ex.mk op n s x)).cells = [.sl 2 [], .sl 7 [], .sl 7 [], .sl 5 [[.str [97], .int .i64 op, .int .i64 n, .str s, .sl 4 (Ex.rows x)]]] := by simp [solo, Pg.cells, Pg.pcells, Pg.ocells, Sm.rows, hcells]
 rw [hc2] at hR
 rw [eval_M rfl rfl t_print_Expr rfl]
 cases hok : (Ex.mk op n s x).ok 8 with
 | false =>
  rw [hok] at hR
  rw [hcells]
  simp [c_print_Expr, get0, hR]
 | true =>
 rw [hok] at hR
 obtain ⟨K, hK⟩ : ∃ K, K = H ++ [some (Ex.mk op n s x).cells, some [.bld bP bE []]] := ⟨_, rfl⟩
 have hi : H.length + 1 < K.length := by rw [hK]; simp
 have hK0 : wrB K (H.length + 1) [] = K := by
  unfold wrB
  rw [hK]
  exact set1 H _ _ _ []
 have hX1 := hX hok K [] (H.length + 1) [] 0 hi (by simp; omega)
 have hS := PString_eq hi (Ex.mk op n s x).bare []
 have htk : (K.set (H.length + 1) none).take H.length = H := by
  rw [hK, set1, List.take_append_of_le_length (Nat.le_refl _), List.take_length]
 simp only [List.append_nil] at hX1 hS
 rw [hK0, hK] at hX1
 rw [hcells] at hX1 ⊢
 simp [par] at hX1
 rw [hK] at hS htk
 rw [hcells] at hS htk
 simp [c_print_Expr, get0, get1, hR, hX1, hS, htk]
end Go.AM.Spec
