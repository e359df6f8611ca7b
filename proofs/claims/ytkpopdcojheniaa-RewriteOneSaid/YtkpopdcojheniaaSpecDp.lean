/-
 The parts of this proof that speak of the functions one by one.
-/
import Derived.Test.YtkpopdcojheniaaSpecTr
import Derived.Test.YtkpopdcojheniaaOpX
namespace Go.AM.Spec
set_option linter.unusedVariables false
set_option linter.unusedSimpArgs false
set_option maxHeartbeats 1000000
set_option maxRecDepth 10000
def LRep (k : Nat) (H : Heap) (n : Nat) (v : V) (S : List Nat) (RR : List (List V) → List Nat → Prop) : Prop :=
 (n = 0 ∧ v = .sl k [] ∧ S = []) ∨ ∃ i cap junk rows S', v = .mg k i 0 n cap ∧ S = i :: S' ∧ H[i]? = some (some (rows.flatten ++ junk)) ∧ RR rows S' ∧ (cap = n ∨ (n ≤ cap ∧ cap * k ≤ (rows.flatten ++ junk).length))
mutual
def Ex.rep (H : Heap) : Ex → List V → List Nat → Prop
 | .mk op n s x, cells, S => ∃ v, cells = [.int .i64 op, .int .i64 n, .str s, v] ∧ LRep 4 H x.length v S (Ex.reps H x)
def Ex.reps (H : Heap) : List Ex → List (List V) → List Nat → Prop
 | [], rows, S => rows = [] ∧ S = []
 | e :: l, rows, S => ∃ r rs S1 S2, rows = r :: rs ∧ S = S1 ++ S2 ∧ e.rep H r S1 ∧ Ex.reps H l rs S2
end
mutual
def Sm.rep (H : Heap) : Sm → List V → List Nat → Prop
 | .mk op s n e b c k, cells, S => ∃ v1 v2 v3 S1 S2 S3, cells = [.int .i64 op, .str s, .int .i64 n, v1, v2, v3, .bool k] ∧ S = S1 ++ (S2 ++ S3) ∧
  LRep 4 H e.length v1 S1 (Ex.reps H e) ∧ LRep 7 H b.length v2 S2 (Sm.reps H b) ∧ LRep 7 H c.length v3 S3 (Sm.reps H c)
def Sm.reps (H : Heap) : List Sm → List (List V) → List Nat → Prop
 | [], rows, S => rows = [] ∧ S = []
 | e :: l, rows, S => ∃ r rs S1 S2, rows = r :: rs ∧ S = S1 ++ S2 ∧ e.rep H r S1 ∧ Sm.reps H l rs S2
end
theorem LRep.frame {k : Nat} {H K : Heap} {n : Nat} {v : V} {S : List Nat} {RR RR' : List (List V) → List Nat → Prop} (h : LRep k H n v S RR) (hS : ∀ i ∈ S, K[i]? = H[i]?) (hR : ∀ rows S', (∀ i ∈ S', i ∈ S) → RR rows S' → RR' rows S') : LRep k K n v S RR' := by
 rcases h with h | ⟨i, cap, junk, rows, S', rfl, rfl, h1, h2, h3⟩
 ·exact .inl h
 ·exact .inr ⟨i, cap, junk, rows, S', rfl, rfl, by rw [hS i (by simp), h1], hR rows S' (fun j hj => by simp [hj]) h2, h3⟩
mutual
theorem Ex.rep_frame {H K : Heap} : ∀ {e : Ex} {cells : List V} {S : List Nat}, e.rep H cells S → (∀ i ∈ S, K[i]? = H[i]?) → e.rep K cells S
 | .mk op n s x, cells, S, ⟨v, h1, h2⟩, hS => ⟨v, h1, h2.frame hS fun rows S' hs h => Ex.reps_frame h fun i hi => hS i (hs i hi)⟩
theorem Ex.reps_frame {H K : Heap} : ∀ {l : List Ex} {rows : List (List V)} {S : List Nat}, Ex.reps H l rows S → (∀ i ∈ S, K[i]? = H[i]?) → Ex.reps K l rows S
 | [], _, _, h, _ => h
 | e :: l, _, _, ⟨r, rs, S1, S2, h1, h2, h3, h4⟩, hS => ⟨r, rs, S1, S2, h1, h2, Ex.rep_frame h3 fun i hi => hS i (by rw [h2]; simp [hi]), Ex.reps_frame h4 fun i hi => hS i (by rw [h2]; simp [hi])⟩
end
mutual
theorem Sm.rep_frame {H K : Heap} : ∀ {e : Sm} {cells : List V} {S : List Nat}, e.rep H cells S → (∀ i ∈ S, K[i]? = H[i]?) → e.rep K cells S
 | .mk op s n e b c k, cells, S, ⟨v1, v2, v3, S1, S2, S3, h1, h2, h3, h4, h5⟩, hS => ⟨v1, v2, v3, S1, S2, S3, h1, h2,
   h3.frame (fun i hi => hS i (by rw [h2]; simp [hi])) fun rows S' hs h => Ex.reps_frame h fun i hi => hS i (by rw [h2]; simp [hs i hi]),
   h4.frame (fun i hi => hS i (by rw [h2]; simp [hi])) fun rows S' hs h => Sm.reps_frame h fun i hi => hS i (by rw [h2]; simp [hs i hi]),
   h5.frame (fun i hi => hS i (by rw [h2]; simp [hi])) fun rows S' hs h => Sm.reps_frame h fun i hi => hS i (by rw [h2]; simp [hs i hi])⟩
theorem Sm.reps_frame {H K : Heap} : ∀ {l : List Sm} {rows : List (List V)} {S : List Nat}, Sm.reps H l rows S → (∀ i ∈ S, K[i]? = H[i]?) → Sm.reps K l rows S
 | [], _, _, h, _ => h
 | e :: l, _, _, ⟨r, rs, S1, S2, h1, h2, h3, h4⟩, hS => ⟨r, rs, S1, S2, h1, h2, Sm.rep_frame h3 fun i hi => hS i (by rw [h2]; simp [hi]), Sm.reps_frame h4 fun i hi => hS i (by rw [h2]; simp [hi])⟩
end
theorem Ex.rep_len {H : Heap} {e : Ex} {cells : List V} {S : List Nat} (h : e.rep H cells S) : cells.length = 4 := by
 cases e; obtain ⟨v, rfl, _⟩ := h; rfl
theorem Sm.rep_len {H : Heap} {e : Sm} {cells : List V} {S : List Nat} (h : e.rep H cells S) : cells.length = 7 := by
 cases e; obtain ⟨v1, v2, v3, S1, S2, S3, rfl, _⟩ := h; rfl
theorem Ex.reps_len {H : Heap} : ∀ {l : List Ex} {rows : List (List V)} {S : List Nat}, Ex.reps H l rows S → rows.length = l.length ∧ (∀ r ∈ rows, r.length = 4) ∧ rows.flatten.length = l.length * 4
 | [], _, _, ⟨rfl, _⟩ => by simp
 | e :: l, _, _, ⟨r, rs, S1, S2, rfl, _, h3, h4⟩ => by
  obtain ⟨h5, h6, h7⟩ := Ex.reps_len h4
  have h8 := Ex.rep_len h3
  refine ⟨by simp [h5], fun r' hr => ?_, by rw [List.flatten_cons, List.length_append, h7, h8, List.length_cons]; omega⟩
  rcases List.mem_cons.1 hr with rfl | hr
  ·exact h8
  ·exact h6 _ hr
theorem Sm.reps_len {H : Heap} : ∀ {l : List Sm} {rows : List (List V)} {S : List Nat}, Sm.reps H l rows S → rows.length = l.length ∧ (∀ r ∈ rows, r.length = 7) ∧ rows.flatten.length = l.length * 7
 | [], _, _, ⟨rfl, _⟩ => by simp
 | e :: l, _, _, ⟨r, rs, S1, S2, rfl, _, h3, h4⟩ => by
  obtain ⟨h5, h6, h7⟩ := Sm.reps_len h4
  have h8 := Sm.rep_len h3
  refine ⟨by simp [h5], fun r' hr => ?_, by rw [List.flatten_cons, List.length_append, h7, h8, List.length_cons]; omega⟩
  rcases List.mem_cons.1 hr with rfl | hr
  ·exact h8
  ·exact h6 _ hr
section
variable {α : Type}
def GReps (R : Heap → α → List V → List Nat → Prop) (H : Heap) : List α → List (List V) → List Nat → Prop
 | [], rows, S => rows = [] ∧ S = []
 | e :: l, rows, S => ∃ r rs S1 S2, rows = r :: rs ∧ S = S1 ++ S2 ∧ R H e r S1 ∧ GReps R H l rs S2
theorem GReps.frame {R : Heap → α → List V → List Nat → Prop} (hR : ∀ H K a r S, R H a r S → (∀ i ∈ S, K[i]? = H[i]?) → R K a r S) {H K : Heap} : ∀ {l : List α} {rows : List (List V)} {S : List Nat}, GReps R H l rows S → (∀ i ∈ S, K[i]? = H[i]?) → GReps R K l rows S
 | [], _, _, h, _ => h
 | e :: l, _, _, ⟨r, rs, S1, S2, h1, h2, h3, h4⟩, hS => ⟨r, rs, S1, S2, h1, h2, hR _ _ _ _ _ h3 (fun i hi => hS i (by rw [h2]; exact List.mem_append_left _ hi)), GReps.frame hR h4 (fun i hi => hS i (by rw [h2]; exact List.mem_append_right _ hi))⟩
theorem GReps.snoc {R : Heap → α → List V → List Nat → Prop} {H : Heap} : ∀ {l : List α} {rows : List (List V)} {S : List Nat} {e : α} {r : List V} {S' : List Nat}, GReps R H l rows S → R H e r S' → GReps R H (l ++ [e]) (rows ++ [r]) (S ++ S')
 | [], _, _, e, r, S', ⟨rfl, rfl⟩, h => ⟨r, [], S', [], rfl, by simp, h, rfl, rfl⟩
 | x :: l, _, _, e, r, S', ⟨r1, rs, S1, S2, rfl, rfl, h3, h4⟩, h => ⟨r1, rs ++ [r], S1, S2 ++ S', rfl, by simp, h3, GReps.snoc h4 h⟩
theorem GReps.flat {R : Heap → α → List V → List Nat → Prop} {k : Nat} (hk : ∀ H a r S, R H a r S → r.length = k) {H : Heap} : ∀ {l : List α} {rows : List (List V)} {S : List Nat}, GReps R H l rows S → rows.flatten.length = l.length * k
 | [], _, _, ⟨rfl, _⟩ => by simp
 | e :: l, _, _, ⟨r, rs, S1, S2, rfl, _, h3, h4⟩ => by
  rw [List.flatten_cons, List.length_append, GReps.flat hk h4, hk _ _ _ _ h3, List.length_cons, Nat.add_mul, Nat.one_mul, Nat.add_comm]
structure OL (R : Heap → α → List V → List Nat → Prop) (k n : Nat) (K : Heap) (v : V) (l : List α) (S : List Nat) : Prop where
 nd : S.Nodup
 at_ : ∀ i ∈ S, n ≤ i ∧ i < K.length
 is : (l = [] ∧ v = .nils k ∧ S = []) ∨ ∃ i rows S', l ≠ [] ∧ v = .mg k i 0 l.length l.length ∧ S = i :: S' ∧ K[i]? = some (some rows.flatten) ∧ GReps R K l rows S'
theorem OL.push {R : Heap → α → List V → List Nat → Prop} {k n bytes : Nat} (hR : ∀ H K a r S, R H a r S → (∀ i ∈ S, K[i]? = H[i]?) → R K a r S) (hk : ∀ H a r S, R H a r S → r.length = k) (hk0 : 0 < k) (hb0 : 0 < bytes)
  {K K3 : Heap} {v : V} {l : List α} {S : List Nat} (h : OL R k n K v l S) {e : α} {cells : List V} {Se : List Nat} (hn : n ≤ K.length) (hl : 2 * (l.length + 1) * bytes ≤ 2 ^ 48)
  (h3 : ∀ i, i < K.length → K3[i]? = K[i]?) (h3l : K.length ≤ K3.length) (he : R K3 e cells Se) (hSe : Se.Nodup) (hSat : ∀ i ∈ Se, K.length ≤ i ∧ i < K3.length) (hone : cells.all V.one = true) :
  ∃ q K4 S', appM K3 k bytes v 1 cells = some (.mg k q 0 (l.length + 1) (l.length + 1), K4) ∧ OL R k n K4 (.mg k q 0 (l.length + 1) (l.length + 1)) (l ++ [e]) S' ∧ (∀ i, i < n → K4[i]? = K3[i]?) ∧ K3.length ≤ K4.length := by
 have hcl := hk _ _ _ _ he
 obtain ⟨hnd, hat, his⟩ := h
 rcases his with ⟨rfl, rfl, rfl⟩ | ⟨i, rows, S', hne, rfl, rfl, hi, hG⟩
 ·refine ⟨K3.length, K3 ++ [some cells], K3.length :: Se, ?_, ⟨?_, fun j hj => ?_, .inr ⟨K3.length, [cells], Se, by simp, rfl, rfl, by simp, ?_⟩⟩, fun j hj => List.getElem?_append_left (by omega), by simp⟩
  ·have : 2 * 1 * bytes ≤ 2 ^ 48 := by simpa using hl
   unfold appM
   simp only [hk0, hone, hb0, and_self, if_true, Nat.zero_lt_one, this, List.length_nil, Nat.zero_add]
  ·exact List.nodup_cons.2 ⟨fun hj => by have := (hSat _ hj).2; omega, hSe⟩
  ·rcases List.mem_cons.1 hj with rfl | hj
   ·simp; omega
   ·have := hSat _ hj; simp; omega
  ·exact ⟨cells, [], Se, [], rfl, by simp, hR _ _ _ _ _ he (fun j hj => List.getElem?_append_left (hSat j hj).2), rfl, rfl⟩
 ·have hin := hat i (by simp)
  have hnd2 := List.nodup_cons.1 hnd
  have hfl := hG.flat hk
  have hi3 : K3[i]? = some (some rows.flatten) := by rw [h3 i hin.2, hi]
  refine ⟨K3.length, K3.set i none ++ [some (rows.flatten ++ cells)], K3.length :: (S' ++ Se), ?_, ⟨?_, fun j hj => ?_, .inr ⟨K3.length, rows ++ [cells], S' ++ Se, by simp, by simp, rfl, ?_, ?_⟩⟩, fun j hj => ?_, by simp⟩
  ·unfold appM
   simp only [hk0, hone, hb0, and_self, if_true, hi3, if_neg (show ¬ (l.length + 1 ≤ l.length ∧ 0 + l.length * k ≤ rows.flatten.length) by omega), if_pos (show 0 + l.length * k ≤ rows.flatten.length ∧ 0 < 1 ∧ 2 * (l.length + 1) * bytes ≤ 2 ^ 48 from ⟨by omega, by omega, hl⟩), List.drop_zero, List.take_of_length_le (Nat.le_of_eq hfl)]
  ·refine List.nodup_cons.2 ⟨fun hj => ?_, List.nodup_append.2 ⟨hnd2.2, hSe, fun a ha b hb hab => ?_⟩⟩
   ·rcases List.mem_append.1 hj with hj | hj
    ·have := (hat _ (List.mem_cons_of_mem _ hj)).2; omega
    ·have := (hSat _ hj).2; omega
   ·have h1 := (hat a (List.mem_cons_of_mem _ ha)).2
    have h2 := (hSat b hb).1
    omega
  ·rcases List.mem_cons.1 hj with rfl | hj
   ·simp; omega
   ·rcases List.mem_append.1 hj with hj | hj
    ·have := hat _ (List.mem_cons_of_mem _ hj); simp; omega
    ·have := hSat _ hj; simp; omega
  ·rw [List.getElem?_append_right (by simp)]; simp
  ·refine GReps.snoc (GReps.frame hR hG fun j hj => ?_) (hR _ _ _ _ _ he fun j hj => ?_)
   ·have h1 := (hat j (List.mem_cons_of_mem _ hj)).2
    rw [List.getElem?_append_left (by simp; omega), List.getElem?_set_ne (fun h => hnd2.1 (by rw [h]; exact hj)), h3 j h1]
   ·have h1 := hSat j hj
    rw [List.getElem?_append_left (by simp; omega), List.getElem?_set_ne (by omega)]
  ·rw [List.getElem?_append_left (by simp; omega), List.getElem?_set_ne (by omega)]
end
def ExR (H : Heap) (e : Ex) : List V → List Nat → Prop := e.rep H
def SmR (H : Heap) (e : Sm) : List V → List Nat → Prop := e.rep H
theorem Ex.reps_G {H : Heap} : ∀ {l : List Ex} {rows : List (List V)} {S : List Nat}, GReps ExR H l rows S ↔ Ex.reps H l rows S
 | [], _, _ => Iff.rfl
 | e :: l, _, _ => by simp only [GReps, Ex.reps, ExR, Ex.reps_G (l := l)]
theorem Sm.reps_G {H : Heap} : ∀ {l : List Sm} {rows : List (List V)} {S : List Nat}, GReps SmR H l rows S ↔ Sm.reps H l rows S
 | [], _, _ => Iff.rfl
 | e :: l, _, _ => by simp only [GReps, Sm.reps, SmR, Sm.reps_G (l := l)]
def DF {α : Type} (R : Heap → α → List V → List Nat → Prop) (g : α → List V) (call : CallF) (f : Nat) (e : α) : Prop :=
 ∀ K, ∃ cells L S, call (wNo f) [.agg (g e)] K = some (.agg cells, K ++ L) ∧ R (K ++ L) e cells S ∧ S.Nodup ∧ ∀ i ∈ S, K.length ≤ i ∧ i < (K ++ L).length
theorem eachE_loop (call : CallF) (n : Nat) (H : Heap) (l : List Ex) (hl : l.length ≤ 20000) (hf : ∀ e ∈ l, DF ExR Ex.cells call n_tree_clonedExpr e) (Q : Option (V × Heap) → Prop) (k : List Item)
  (hexit : ∀ φ' K v S, (∀ i, i < n → K[i]? = H[i]?) → n ≤ K.length → OL ExR 4 n K v l S → Fr.get φ' 5 = v → Q (M call k φ' K)) :
  ∀ (j i : Nat) (φ : Fr) (K : Heap) (v : V) (S : List Nat), i + j = l.length → (∀ i, i < n → K[i]? = H[i]?) → n ≤ K.length → OL ExR 4 n K v (l.take i) S → Fr.get φ 1 = .fn (.func n_tree_clonedExpr) [] [] → Fr.get φ 5 = v → Fr.get φ 8 = .sl 4 (Ex.rows l) → Fr.get φ 9 = .int .i64 l.length → Fr.get φ 10 = .int .i64 i →
   Q (M call (.code l_tree_each_api_Expr_w_0 :: .blk 0 :: k) φ K) := by
 intro j
 induction j with
 | zero =>
  intro i φ K v S hj hK hn hv h1 h5 h8 h9 h10
  have hi : ¬ ((i : Int) < l.length) := by omega
  rw [List.take_of_length_le (by omega)] at hv
  rw [l_tree_each_api_Expr_w_0, M_loop, ← l_tree_each_api_Expr_w_0]
  simp [b_tree_each_api_Expr_w_0, h1, h8, h9, h10, hi]
  exact hexit _ K v S hK hn hv (by simp [h5])
 | succ j ih =>
  intro i φ K v S hj hK hn hv h1 h5 h8 h9 h10
  have hi : (i : Int) < l.length := by omega
  have hil : i < l.length := by omega
  obtain ⟨e, he⟩ : ∃ e, l[i]? = some e := ⟨l[i], List.getElem?_eq_getElem hil⟩
  have hmem : e ∈ l := List.mem_of_getElem? he
  have hrow : (Ex.rows l)[i]? = some e.cells := by rw [Ex.rows_eq, List.getElem?_map, he]; rfl
  have hcl : (Ex.rows l).length = l.length := by rw [Ex.rows_eq]; simp
  have hti : (l.take i).length = i := by simp; omega
  have hnext : l.take i ++ [e] = l.take (i + 1) := by rw [List.take_add_one, he]; rfl
  have hw : IntKind.i64.wrap ((i : Int) + 1) = ((i + 1 : Nat) : Int) := by rw [w64 (by omega) (by omega)]; rfl
  obtain ⟨cells, L, Se, hc, hR, hSe, hSat⟩ := hf e hmem (K ++ [some e.cells])
  have hlen := Ex.rep_len hR
  have hone : cells.all V.one = true := by
   cases e
   obtain ⟨v0, rfl, hL⟩ := hR
   rcases hL with ⟨_, rfl, _⟩ | ⟨i', cap, junk, rows, S', rfl, _⟩ <;> rfl
  have hst : cells.map V.strip = cells := by
   cases e
   obtain ⟨v0, rfl, hL⟩ := hR
   rcases hL with ⟨_, rfl, _⟩ | ⟨i', cap, junk, rows, S', rfl, _⟩ <;> rfl
  have hK3 : ∀ i ∈ Se, (K ++ some e.cells :: (L ++ [some cells]))[i]? = ((K ++ [some e.cells]) ++ L)[i]? := fun q hq => by
   have h2 := (hSat q hq).2
   rw [show K ++ some e.cells :: (L ++ [some cells]) = ((K ++ [some e.cells]) ++ L) ++ [some cells] by simp, List.getElem?_append_left h2]
  obtain ⟨q, K4, S', hap, hOL, hlo, hle⟩ := OL.push (R := ExR) (bytes := 56) (h := hv) (K3 := K ++ some e.cells :: (L ++ [some cells])) (e := e) (cells := cells) (Se := Se) (fun _ _ _ _ _ h hS => Ex.rep_frame h hS) (fun _ _ _ _ h => Ex.rep_len h) (by omega) (by omega) hn (by rw [hti]; omega)
   (fun q hq => List.getElem?_append_left hq) (by simp) (Ex.rep_frame hR hK3) hSe (fun q hq => ⟨by have := (hSat q hq).1; simp at this; omega, by have := (hSat q hq).2; simp at this ⊢; omega⟩) hone
  rw [hnext] at hOL
  rw [hti] at hap hOL
  have hlo2 : ∀ q, q < n → K4[q]? = H[q]? := fun q hq => by rw [hlo q hq, List.getElem?_append_left (by omega), hK q hq]
  have hle2 : n ≤ K4.length := by simp at hle; omega
  have hnx := ih (i + 1)
  have hg : ∀ (a b : Option (List V)), (K ++ a :: (L ++ [b]))[K.length + (L.length + 1)]? = some b := fun a b => by
   rw [List.getElem?_append_right (by omega), show K.length + (L.length + 1) - K.length = L.length + 1 by omega, List.getElem?_cons_succ, get0]
  obtain ⟨op, m, s, x⟩ := e
  obtain ⟨v0, rfl, hL⟩ := hR
  simp only [Ex.cells] at hrow hc hap
  have hc' : call (wNo n_tree_clonedExpr) [.agg [.int .i64 op, .int .i64 m, .str s, .sl 4 (Ex.rows x)]] (K ++ [some [.int .i64 op, .int .i64 m, .str s, .sl 4 (Ex.rows x)]]) = some (.agg [.int .i64 op, .int .i64 m, .str s, v0], K ++ some [.int .i64 op, .int .i64 m, .str s, .sl 4 (Ex.rows x)] :: L) := by
   rw [hc]; simp
  rw [l_tree_each_api_Expr_w_0, M_loop, ← l_tree_each_api_Expr_w_0]
  rcases hL with ⟨_, rfl, _⟩ | ⟨i', cap, junk, rows', S'', rfl, _⟩ <;> rcases hv.is with ⟨hl0, rfl, _⟩ | ⟨i0, rows, S0, _, rfl, _, _⟩
  all_goals
   try simp only [hti] at h5 hap
   simp [b_tree_each_api_Expr_w_0, h1, h5, h8, h9, h10, hi, hcl, hrow, hc', hap, hg, get0, set0, hw]
   exact hnx _ K4 _ S' (by omega) hlo2 hle2 hOL (by simp [h1]) (by simp) (by simp [h8]) (by simp [h9]) (by simp)
theorem heap_more {K H : Heap} (h : ∀ i, i < H.length → K[i]? = H[i]?) (hl : H.length ≤ K.length) : K = H ++ K.drop H.length := by
 apply List.ext_getElem?
 intro i
 by_cases hi : i < H.length
 ·rw [h i hi, List.getElem?_append_left hi]
 ·rw [List.getElem?_append_right (by omega), List.getElem?_drop]; congr 1; omega
theorem eachE_eq (l : List Ex) (hl : l.length ≤ 20000) (hf : ∀ e ∈ l, DF ExR Ex.cells (eval tbl noExt) n_tree_clonedExpr e) (H : Heap) :
  ∃ v L, eval tbl noExt (wNo n_tree_each_api_Expr) [.sl 4 (Ex.rows l), .fn (.func n_tree_clonedExpr) [] []] H = some (v, H ++ L) ∧ ∃ S, OL ExR 4 H.length (H ++ L) v l S := by
 have hcl : (Ex.rows l).length = l.length := by rw [Ex.rows_eq]; simp
 rw [eval_W tw_tree_each_api_Expr rfl]
 simp [c_tree_each_api_Expr_w, hcl]
 refine eachE_loop (eval tbl noExt) H.length H l hl hf (fun o => ∃ v L, o = some (v, H ++ L) ∧ ∃ S, OL ExR 4 H.length (H ++ L) v l S) _ (fun φ' K v S hK hn hv h5 => ⟨v, K.drop H.length, ?_, S, ?_⟩) l.length 0 _ H (.nils 4) [] (by omega) (fun _ _ => rfl) (Nat.le_refl _) ⟨List.nodup_nil, fun i hi => by simp at hi, .inl ⟨rfl, rfl, rfl⟩⟩ (by simp) (by simp) (by simp) (by simp) (by simp)
 ·rw [← heap_more hK hn]
  rcases hv.is with ⟨_, rfl, _⟩ | ⟨q, _, _, _, rfl, _⟩ <;> simp [r_tree_each_api_Expr_w_0, h5]
 ·rw [← heap_more hK hn]; exact hv
theorem OL.rep {α : Type} {R : Heap → α → List V → List Nat → Prop} {k n : Nat} {K : Heap} {v : V} {l : List α} {S : List Nat} (h : OL R k n K v l S) : LRep k K l.length v.strip S (GReps R K l) ∧ (v = .nils k ∨ v.strip = v) := by
 rcases h.is with ⟨rfl, rfl, rfl⟩ | ⟨i, rows, S', _, rfl, rfl, h1, h2⟩
 ·exact ⟨.inl ⟨rfl, rfl, rfl⟩, .inl rfl⟩
 ·exact ⟨.inr ⟨i, _, [], rows, S', rfl, rfl, by rw [List.append_nil]; exact h1, h2, .inl rfl⟩, .inr rfl⟩
theorem hid_get {m : Nat} {K L : Heap} (hK : K.length = m) (i : Nat) (hi : m ≤ i) : (K ++ L)[i]? = (List.replicate m none ++ L)[i]? := by
 rw [List.getElem?_append_right (by omega), List.getElem?_append_right (by simp; omega)]; simp [hK]
theorem clonedExprW (op m : Int) (s : List UInt8) (x : List Ex) (hl : x.length ≤ 20000) (hf : ∀ e ∈ x, DF ExR Ex.cells (eval tbl noExt) n_tree_clonedExpr e) : DF ExR Ex.cells (eval tbl noExt) n_tree_clonedExpr (.mk op m s x) := by
 intro K
 obtain ⟨v, L, hv, S, hOL⟩ := eachE_eq x hl hf (List.replicate (K.length + 2) none)
 rw [List.length_replicate] at hOL
 obtain ⟨hrep, hvs⟩ := hOL.rep
 have hfr : ∀ a b : Option (List V), ∀ i ∈ S, (K ++ a :: b :: L)[i]? = (List.replicate (K.length + 2) none ++ L)[i]? := fun a b i hi => by
  have := hid_get (m := K.length + 2) (K := K ++ [a, b]) (L := L) (by simp) i (hOL.at_ i hi).1
  simpa using this
 refine ⟨[.int .i64 op, .int .i64 m, .str s, v.strip], some [.int .i64 op, .int .i64 m, .str s, v] :: some [.int .i64 op, .int .i64 m, .str s, v.strip] :: L, S, ?_, ⟨v.strip, rfl, ?_⟩, hOL.nd, fun i hi => ?_⟩
 ·rw [eval_W tw_tree_clonedExpr rfl]
  rcases hOL.is with ⟨_, rfl, _⟩ | ⟨q, _, _, _, rfl, _⟩ <;> simp [c_tree_clonedExpr_w, Ex.cells, callOwn, hv, get0, get1, set0, set1]
 ·exact hrep.frame (hfr _ _) fun rows S' hs h => Ex.reps_frame (Ex.reps_G.1 h) fun i hi => hfr _ _ i (hs i hi)
 ·have := hOL.at_ i hi
  simp at this ⊢; omega
set_option maxHeartbeats 4000000
def procV (x : List UInt8 × List Sm) : List V := [.str x.1, .sl 7 (Sm.rows x.2)]
def oracleV (x : List UInt8 × Ex) : List V := .str x.1 :: x.2.cells
def PrR (H : Heap) (x : List UInt8 × List Sm) (cells : List V) (S : List Nat) : Prop := ∃ v, cells = [.str x.1, v] ∧ LRep 7 H x.2.length v S (Sm.reps H x.2)
def OrR (H : Heap) (x : List UInt8 × Ex) (cells : List V) (S : List Nat) : Prop := ∃ c, cells = .str x.1 :: c ∧ x.2.rep H c S
theorem PrR.frame {H K : Heap} {x : List UInt8 × List Sm} {cells : List V} {S : List Nat} (h : PrR H x cells S) (hS : ∀ i ∈ S, K[i]? = H[i]?) : PrR K x cells S := by
 obtain ⟨v, h1, h2⟩ := h
 exact ⟨v, h1, h2.frame hS fun rows S' hs h => Sm.reps_frame h fun i hi => hS i (hs i hi)⟩
theorem OrR.frame {H K : Heap} {x : List UInt8 × Ex} {cells : List V} {S : List Nat} (h : OrR H x cells S) (hS : ∀ i ∈ S, K[i]? = H[i]?) : OrR K x cells S := by
 obtain ⟨v, h1, h2⟩ := h
 exact ⟨v, h1, Ex.rep_frame h2 hS⟩
theorem PrR.len {H : Heap} {x : List UInt8 × List Sm} {cells : List V} {S : List Nat} (h : PrR H x cells S) : cells.length = 2 := by
 obtain ⟨v, rfl, _⟩ := h; rfl
theorem OrR.len {H : Heap} {x : List UInt8 × Ex} {cells : List V} {S : List Nat} (h : OrR H x cells S) : cells.length = 5 := by
 obtain ⟨v, rfl, h2⟩ := h; have := Ex.rep_len h2; simp [this]
theorem eachS_loop (call : CallF) (n : Nat) (H : Heap) (l : List (Sm)) (hl : l.length ≤ 20000) (hf : ∀ e ∈ l, DF SmR Sm.cells call n_tree_cloned e) (Q : Option (V × Heap) → Prop) (k : List Item)
  (hexit : ∀ φ' K v S, (∀ i, i < n → K[i]? = H[i]?) → n ≤ K.length → OL SmR 7 n K v l S → Fr.get φ' 5 = v → Q (M call k φ' K)) :
  ∀ (j i : Nat) (φ : Fr) (K : Heap) (v : V) (S : List Nat), i + j = l.length → (∀ i, i < n → K[i]? = H[i]?) → n ≤ K.length → OL SmR 7 n K v (l.take i) S → Fr.get φ 1 = .fn (.func n_tree_cloned) [] [] → Fr.get φ 5 = v → Fr.get φ 8 = .sl 7 (Sm.rows l) → Fr.get φ 9 = .int .i64 l.length → Fr.get φ 10 = .int .i64 i →
   Q (M call (.code l_tree_each_api_Stmt_w_0 :: .blk 0 :: k) φ K) := by
 intro j
 induction j with
 | zero =>
  intro i φ K v S hj hK hn hv h1 h5 h8 h9 h10
  have hi : ¬ ((i : Int) < l.length) := by omega
  rw [List.take_of_length_le (by omega)] at hv
  rw [l_tree_each_api_Stmt_w_0, M_loop, ← l_tree_each_api_Stmt_w_0]
  simp [b_tree_each_api_Stmt_w_0, h1, h8, h9, h10, hi]
  exact hexit _ K v S hK hn hv (by simp [h5])
 | succ j ih =>
  intro i φ K v S hj hK hn hv h1 h5 h8 h9 h10
  have hi : (i : Int) < l.length := by omega
  have hil : i < l.length := by omega
  obtain ⟨e, he⟩ : ∃ e, l[i]? = some e := ⟨l[i], List.getElem?_eq_getElem hil⟩
  have hmem : e ∈ l := List.mem_of_getElem? he
  have hrow : (Sm.rows l)[i]? = some (Sm.cells e) := by rw [Sm.rows_eq, List.getElem?_map, he]; rfl
  have hcl : (Sm.rows l).length = l.length := by rw [Sm.rows_eq]; simp
  have hti : (l.take i).length = i := by simp; omega
  have hnext : l.take i ++ [e] = l.take (i + 1) := by rw [List.take_add_one, he]; rfl
  have hw : IntKind.i64.wrap ((i : Int) + 1) = ((i + 1 : Nat) : Int) := by rw [w64 (by omega) (by omega)]; rfl
  obtain ⟨cells, L, Se, hc, hR, hSe, hSat⟩ := hf e hmem (K ++ [some (Sm.cells e)])
  have hlen := Sm.rep_len hR
  have hone : cells.all V.one = true := by
   cases e
   obtain ⟨v1, v2, v3, S1, S2, S3, rfl, _, hL1, hL2, hL3⟩ := hR
   rcases hL1 with ⟨_, rfl, _⟩ | ⟨_, _, _, _, _, rfl, _⟩ <;> rcases hL2 with ⟨_, rfl, _⟩ | ⟨_, _, _, _, _, rfl, _⟩ <;> rcases hL3 with ⟨_, rfl, _⟩ | ⟨_, _, _, _, _, rfl, _⟩ <;> rfl
  have hst : cells.map V.strip = cells := by
   cases e
   obtain ⟨v1, v2, v3, S1, S2, S3, rfl, _, hL1, hL2, hL3⟩ := hR
   rcases hL1 with ⟨_, rfl, _⟩ | ⟨_, _, _, _, _, rfl, _⟩ <;> rcases hL2 with ⟨_, rfl, _⟩ | ⟨_, _, _, _, _, rfl, _⟩ <;> rcases hL3 with ⟨_, rfl, _⟩ | ⟨_, _, _, _, _, rfl, _⟩ <;> rfl
  have hK3 : ∀ i ∈ Se, (K ++ some (Sm.cells e) :: (L ++ [some cells]))[i]? = ((K ++ [some (Sm.cells e)]) ++ L)[i]? := fun q hq => by
   have h2 := (hSat q hq).2
   rw [show K ++ some (Sm.cells e) :: (L ++ [some cells]) = ((K ++ [some (Sm.cells e)]) ++ L) ++ [some cells] by simp, List.getElem?_append_left h2]
  obtain ⟨q, K4, S', hap, hOL, hlo, hle⟩ := OL.push (R := SmR) (bytes := 112) (h := hv) (K3 := K ++ some (Sm.cells e) :: (L ++ [some cells])) (e := e) (cells := cells) (Se := Se) (fun _ _ _ _ _ h hS => Sm.rep_frame h hS) (fun _ _ _ _ h => Sm.rep_len h) (by omega) (by omega) hn (by rw [hti]; omega)
   (fun q hq => List.getElem?_append_left hq) (by simp) (Sm.rep_frame hR hK3) hSe (fun q hq => ⟨by have := (hSat q hq).1; simp at this; omega, by have := (hSat q hq).2; simp at this ⊢; omega⟩) hone
  rw [hnext] at hOL
  rw [hti] at hap hOL
  have hlo2 : ∀ q, q < n → K4[q]? = H[q]? := fun q hq => by rw [hlo q hq, List.getElem?_append_left (by omega), hK q hq]
  have hle2 : n ≤ K4.length := by simp at hle; omega
  have hnx := ih (i + 1)
  have hg : ∀ (a b : Option (List V)), (K ++ a :: (L ++ [b]))[K.length + (L.length + 1)]? = some b := fun a b => by
   rw [List.getElem?_append_right (by omega), show K.length + (L.length + 1) - K.length = L.length + 1 by omega, List.getElem?_cons_succ, get0]
  obtain ⟨op, s, m, x, b, c, g⟩ := e
  obtain ⟨v1, v2, v3, S1, S2, S3, rfl, _, hL1, hL2, hL3⟩ := hR
  simp only [Sm.cells] at hrow hc hap
  have hc' : call (wNo n_tree_cloned) [.agg [.int .i64 op, .str s, .int .i64 m, .sl 4 (Ex.rows x), .sl 7 (Sm.rows b), .sl 7 (Sm.rows c), .bool g]] (K ++ [some [.int .i64 op, .str s, .int .i64 m, .sl 4 (Ex.rows x), .sl 7 (Sm.rows b), .sl 7 (Sm.rows c), .bool g]]) = some (.agg [.int .i64 op, .str s, .int .i64 m, v1, v2, v3, .bool g], K ++ some [.int .i64 op, .str s, .int .i64 m, .sl 4 (Ex.rows x), .sl 7 (Sm.rows b), .sl 7 (Sm.rows c), .bool g] :: L) := by
   rw [hc]; simp
  rw [l_tree_each_api_Stmt_w_0, M_loop, ← l_tree_each_api_Stmt_w_0]
  rcases hL1 with ⟨_, rfl, _⟩ | ⟨_, _, _, _, _, rfl, _⟩ <;> rcases hL2 with ⟨_, rfl, _⟩ | ⟨_, _, _, _, _, rfl, _⟩ <;> rcases hL3 with ⟨_, rfl, _⟩ | ⟨_, _, _, _, _, rfl, _⟩ <;> rcases hv.is with ⟨hl0, rfl, _⟩ | ⟨i0, rows, S0, _, rfl, _, _⟩
  all_goals
   try simp only [hti] at h5 hap
   simp [b_tree_each_api_Stmt_w_0, h1, h5, h8, h9, h10, hi, hcl, hrow, hc', hap, hg, get0, set0, hw]
   exact hnx _ K4 _ S' (by omega) hlo2 hle2 hOL (by simp [h1]) (by simp) (by simp [h8]) (by simp [h9]) (by simp)
theorem eachS_eq (l : List (Sm)) (hl : l.length ≤ 20000) (hf : ∀ e ∈ l, DF SmR Sm.cells (eval tbl noExt) n_tree_cloned e) (H : Heap) :
  ∃ v L, eval tbl noExt (wNo n_tree_each_api_Stmt) [.sl 7 (Sm.rows l), .fn (.func n_tree_cloned) [] []] H = some (v, H ++ L) ∧ ∃ S, OL SmR 7 H.length (H ++ L) v l S := by
 have hcl : (Sm.rows l).length = l.length := by rw [Sm.rows_eq]; simp
 rw [eval_W tw_tree_each_api_Stmt rfl]
 simp [c_tree_each_api_Stmt_w, hcl]
 refine eachS_loop (eval tbl noExt) H.length H l hl hf (fun o => ∃ v L, o = some (v, H ++ L) ∧ ∃ S, OL SmR 7 H.length (H ++ L) v l S) _ (fun φ' K v S hK hn hv h5 => ⟨v, K.drop H.length, ?_, S, ?_⟩) l.length 0 _ H (.nils 7) [] (by omega) (fun _ _ => rfl) (Nat.le_refl _) ⟨List.nodup_nil, fun i hi => by simp at hi, .inl ⟨rfl, rfl, rfl⟩⟩ (by simp) (by simp) (by simp) (by simp) (by simp)
 ·rw [← heap_more hK hn]
  rcases hv.is with ⟨_, rfl, _⟩ | ⟨q, _, _, _, rfl, _⟩ <;> simp [r_tree_each_api_Stmt_w_0, h5]
 ·rw [← heap_more hK hn]; exact hv
theorem eachP_loop (call : CallF) (n : Nat) (H : Heap) (l : List (List UInt8 × List Sm)) (hl : l.length ≤ 20000) (hf : ∀ e ∈ l, DF PrR procV call n_tree_Clone_1 e) (Q : Option (V × Heap) → Prop) (k : List Item)
  (hexit : ∀ φ' K v S, (∀ i, i < n → K[i]? = H[i]?) → n ≤ K.length → OL PrR 2 n K v l S → Fr.get φ' 5 = v → Q (M call k φ' K)) :
  ∀ (j i : Nat) (φ : Fr) (K : Heap) (v : V) (S : List Nat), i + j = l.length → (∀ i, i < n → K[i]? = H[i]?) → n ≤ K.length → OL PrR 2 n K v (l.take i) S → Fr.get φ 1 = .fn (.func n_tree_Clone_1) [] [] → Fr.get φ 5 = v → Fr.get φ 8 = .sl 2 (l.map procV) → Fr.get φ 9 = .int .i64 l.length → Fr.get φ 10 = .int .i64 i →
   Q (M call (.code l_tree_each_api_Proc_w_0 :: .blk 0 :: k) φ K) := by
 intro j
 induction j with
 | zero =>
  intro i φ K v S hj hK hn hv h1 h5 h8 h9 h10
  have hi : ¬ ((i : Int) < l.length) := by omega
  rw [List.take_of_length_le (by omega)] at hv
  rw [l_tree_each_api_Proc_w_0, M_loop, ← l_tree_each_api_Proc_w_0]
  simp [b_tree_each_api_Proc_w_0, h1, h8, h9, h10, hi]
  exact hexit _ K v S hK hn hv (by simp [h5])
 | succ j ih =>
  intro i φ K v S hj hK hn hv h1 h5 h8 h9 h10
  have hi : (i : Int) < l.length := by omega
  have hil : i < l.length := by omega
  obtain ⟨e, he⟩ : ∃ e, l[i]? = some e := ⟨l[i], List.getElem?_eq_getElem hil⟩
  have hmem : e ∈ l := List.mem_of_getElem? he
  have hrow : (l.map procV)[i]? = some (procV e) := by rw [List.getElem?_map, he]; rfl
  have hcl : (l.map procV).length = l.length := by simp
  have hti : (l.take i).length = i := by simp; omega
  have hnext : l.take i ++ [e] = l.take (i + 1) := by rw [List.take_add_one, he]; rfl
  have hw : IntKind.i64.wrap ((i : Int) + 1) = ((i + 1 : Nat) : Int) := by rw [w64 (by omega) (by omega)]; rfl
  obtain ⟨cells, L, Se, hc, hR, hSe, hSat⟩ := hf e hmem (K ++ [some (procV e)])
  have hlen := PrR.len hR
  have hone : cells.all V.one = true := by
   cases e
   obtain ⟨v0, rfl, hL⟩ := hR
   rcases hL with ⟨_, rfl, _⟩ | ⟨_, _, _, _, _, rfl, _⟩ <;> rfl
  have hst : cells.map V.strip = cells := by
   cases e
   obtain ⟨v0, rfl, hL⟩ := hR
   rcases hL with ⟨_, rfl, _⟩ | ⟨_, _, _, _, _, rfl, _⟩ <;> rfl
  have hK3 : ∀ i ∈ Se, (K ++ some (procV e) :: (L ++ [some cells]))[i]? = ((K ++ [some (procV e)]) ++ L)[i]? := fun q hq => by
   have h2 := (hSat q hq).2
   rw [show K ++ some (procV e) :: (L ++ [some cells]) = ((K ++ [some (procV e)]) ++ L) ++ [some cells] by simp, List.getElem?_append_left h2]
  obtain ⟨q, K4, S', hap, hOL, hlo, hle⟩ := OL.push (R := PrR) (bytes := 40) (h := hv) (K3 := K ++ some (procV e) :: (L ++ [some cells])) (e := e) (cells := cells) (Se := Se) (fun _ _ _ _ _ h hS => PrR.frame h hS) (fun _ _ _ _ h => PrR.len h) (by omega) (by omega) hn (by rw [hti]; omega)
   (fun q hq => List.getElem?_append_left hq) (by simp) (PrR.frame hR hK3) hSe (fun q hq => ⟨by have := (hSat q hq).1; simp at this; omega, by have := (hSat q hq).2; simp at this ⊢; omega⟩) hone
  rw [hnext] at hOL
  rw [hti] at hap hOL
  have hlo2 : ∀ q, q < n → K4[q]? = H[q]? := fun q hq => by rw [hlo q hq, List.getElem?_append_left (by omega), hK q hq]
  have hle2 : n ≤ K4.length := by simp at hle; omega
  have hnx := ih (i + 1)
  have hg : ∀ (a b : Option (List V)), (K ++ a :: (L ++ [b]))[K.length + (L.length + 1)]? = some b := fun a b => by
   rw [List.getElem?_append_right (by omega), show K.length + (L.length + 1) - K.length = L.length + 1 by omega, List.getElem?_cons_succ, get0]
  obtain ⟨s, b⟩ := e
  obtain ⟨v0, rfl, hL⟩ := hR
  simp only [procV] at hrow hc hap
  have hc' : call (wNo n_tree_Clone_1) [.agg [.str s, .sl 7 (Sm.rows b)]] (K ++ [some [.str s, .sl 7 (Sm.rows b)]]) = some (.agg [.str s, v0], K ++ some [.str s, .sl 7 (Sm.rows b)] :: L) := by
   rw [hc]; simp
  rw [l_tree_each_api_Proc_w_0, M_loop, ← l_tree_each_api_Proc_w_0]
  rcases hL with ⟨_, rfl, _⟩ | ⟨_, _, _, _, _, rfl, _⟩ <;> rcases hv.is with ⟨hl0, rfl, _⟩ | ⟨i0, rows, S0, _, rfl, _, _⟩
  all_goals
   try simp only [hti] at h5 hap
   simp [b_tree_each_api_Proc_w_0, h1, h5, h8, h9, h10, hi, hcl, hrow, hc', hap, hg, get0, set0, hw]
   exact hnx _ K4 _ S' (by omega) hlo2 hle2 hOL (by simp [h1]) (by simp) (by simp [h8]) (by simp [h9]) (by simp)
theorem eachP_eq (l : List (List UInt8 × List Sm)) (hl : l.length ≤ 20000) (hf : ∀ e ∈ l, DF PrR procV (eval tbl noExt) n_tree_Clone_1 e) (H : Heap) :
  ∃ v L, eval tbl noExt (wNo n_tree_each_api_Proc) [.sl 2 (l.map procV), .fn (.func n_tree_Clone_1) [] []] H = some (v, H ++ L) ∧ ∃ S, OL PrR 2 H.length (H ++ L) v l S := by
 have hcl : (l.map procV).length = l.length := by simp
 rw [eval_W tw_tree_each_api_Proc rfl]
 simp [c_tree_each_api_Proc_w, hcl]
 refine eachP_loop (eval tbl noExt) H.length H l hl hf (fun o => ∃ v L, o = some (v, H ++ L) ∧ ∃ S, OL PrR 2 H.length (H ++ L) v l S) _ (fun φ' K v S hK hn hv h5 => ⟨v, K.drop H.length, ?_, S, ?_⟩) l.length 0 _ H (.nils 2) [] (by omega) (fun _ _ => rfl) (Nat.le_refl _) ⟨List.nodup_nil, fun i hi => by simp at hi, .inl ⟨rfl, rfl, rfl⟩⟩ (by simp) (by simp) (by simp) (by simp) (by simp)
 ·rw [← heap_more hK hn]
  rcases hv.is with ⟨_, rfl, _⟩ | ⟨q, _, _, _, rfl, _⟩ <;> simp [r_tree_each_api_Proc_w_0, h5]
 ·rw [← heap_more hK hn]; exact hv
theorem eachO_loop (call : CallF) (n : Nat) (H : Heap) (l : List (List UInt8 × Ex)) (hl : l.length ≤ 20000) (hf : ∀ e ∈ l, DF OrR oracleV call n_tree_Clone_2 e) (Q : Option (V × Heap) → Prop) (k : List Item)
  (hexit : ∀ φ' K v S, (∀ i, i < n → K[i]? = H[i]?) → n ≤ K.length → OL OrR 5 n K v l S → Fr.get φ' 5 = v → Q (M call k φ' K)) :
  ∀ (j i : Nat) (φ : Fr) (K : Heap) (v : V) (S : List Nat), i + j = l.length → (∀ i, i < n → K[i]? = H[i]?) → n ≤ K.length → OL OrR 5 n K v (l.take i) S → Fr.get φ 1 = .fn (.func n_tree_Clone_2) [] [] → Fr.get φ 5 = v → Fr.get φ 8 = .sl 5 (l.map oracleV) → Fr.get φ 9 = .int .i64 l.length → Fr.get φ 10 = .int .i64 i →
   Q (M call (.code l_tree_each_api_Oracle_w_0 :: .blk 0 :: k) φ K) := by
 intro j
 induction j with
 | zero =>
  intro i φ K v S hj hK hn hv h1 h5 h8 h9 h10
  have hi : ¬ ((i : Int) < l.length) := by omega
  rw [List.take_of_length_le (by omega)] at hv
  rw [l_tree_each_api_Oracle_w_0, M_loop, ← l_tree_each_api_Oracle_w_0]
  simp [b_tree_each_api_Oracle_w_0, h1, h8, h9, h10, hi]
  exact hexit _ K v S hK hn hv (by simp [h5])
 | succ j ih =>
  intro i φ K v S hj hK hn hv h1 h5 h8 h9 h10
  have hi : (i : Int) < l.length := by omega
  have hil : i < l.length := by omega
  obtain ⟨e, he⟩ : ∃ e, l[i]? = some e := ⟨l[i], List.getElem?_eq_getElem hil⟩
  have hmem : e ∈ l := List.mem_of_getElem? he
  have hrow : (l.map oracleV)[i]? = some (oracleV e) := by rw [List.getElem?_map, he]; rfl
  have hcl : (l.map oracleV).length = l.length := by simp
  have hti : (l.take i).length = i := by simp; omega
  have hnext : l.take i ++ [e] = l.take (i + 1) := by rw [List.take_add_one, he]; rfl
  have hw : IntKind.i64.wrap ((i : Int) + 1) = ((i + 1 : Nat) : Int) := by rw [w64 (by omega) (by omega)]; rfl
  obtain ⟨cells, L, Se, hc, hR, hSe, hSat⟩ := hf e hmem (K ++ [some (oracleV e)])
  have hlen := OrR.len hR
  have hone : cells.all V.one = true := by
   obtain ⟨_, ⟨⟩⟩ := e
   obtain ⟨c, rfl, v0, rfl, hL⟩ := hR
   rcases hL with ⟨_, rfl, _⟩ | ⟨_, _, _, _, _, rfl, _⟩ <;> rfl
  have hst : cells.map V.strip = cells := by
   obtain ⟨_, ⟨⟩⟩ := e
   obtain ⟨c, rfl, v0, rfl, hL⟩ := hR
   rcases hL with ⟨_, rfl, _⟩ | ⟨_, _, _, _, _, rfl, _⟩ <;> rfl
  have hK3 : ∀ i ∈ Se, (K ++ some (oracleV e) :: (L ++ [some cells]))[i]? = ((K ++ [some (oracleV e)]) ++ L)[i]? := fun q hq => by
   have h2 := (hSat q hq).2
   rw [show K ++ some (oracleV e) :: (L ++ [some cells]) = ((K ++ [some (oracleV e)]) ++ L) ++ [some cells] by simp, List.getElem?_append_left h2]
  obtain ⟨q, K4, S', hap, hOL, hlo, hle⟩ := OL.push (R := OrR) (bytes := 72) (h := hv) (K3 := K ++ some (oracleV e) :: (L ++ [some cells])) (e := e) (cells := cells) (Se := Se) (fun _ _ _ _ _ h hS => OrR.frame h hS) (fun _ _ _ _ h => OrR.len h) (by omega) (by omega) hn (by rw [hti]; omega)
   (fun q hq => List.getElem?_append_left hq) (by simp) (OrR.frame hR hK3) hSe (fun q hq => ⟨by have := (hSat q hq).1; simp at this; omega, by have := (hSat q hq).2; simp at this ⊢; omega⟩) hone
  rw [hnext] at hOL
  rw [hti] at hap hOL
  have hlo2 : ∀ q, q < n → K4[q]? = H[q]? := fun q hq => by rw [hlo q hq, List.getElem?_append_left (by omega), hK q hq]
  have hle2 : n ≤ K4.length := by simp at hle; omega
  have hnx := ih (i + 1)
  have hg : ∀ (a b : Option (List V)), (K ++ a :: (L ++ [b]))[K.length + (L.length + 1)]? = some b := fun a b => by
   rw [List.getElem?_append_right (by omega), show K.length + (L.length + 1) - K.length = L.length + 1 by omega, List.getElem?_cons_succ, get0]
  obtain ⟨s0, ⟨op, m, s, x⟩⟩ := e
  obtain ⟨c, rfl, v0, rfl, hL⟩ := hR
  simp only [oracleV, Ex.cells] at hrow hc hap
  have hc' : call (wNo n_tree_Clone_2) [.agg [.str s0, .int .i64 op, .int .i64 m, .str s, .sl 4 (Ex.rows x)]] (K ++ [some [.str s0, .int .i64 op, .int .i64 m, .str s, .sl 4 (Ex.rows x)]]) = some (.agg [.str s0, .int .i64 op, .int .i64 m, .str s, v0], K ++ some [.str s0, .int .i64 op, .int .i64 m, .str s, .sl 4 (Ex.rows x)] :: L) := by
   rw [hc]; simp
  rw [l_tree_each_api_Oracle_w_0, M_loop, ← l_tree_each_api_Oracle_w_0]
  rcases hL with ⟨_, rfl, _⟩ | ⟨_, _, _, _, _, rfl, _⟩ <;> rcases hv.is with ⟨hl0, rfl, _⟩ | ⟨i0, rows, S0, _, rfl, _, _⟩
  all_goals
   try simp only [hti] at h5 hap
   simp [b_tree_each_api_Oracle_w_0, h1, h5, h8, h9, h10, hi, hcl, hrow, hc', hap, hg, get0, set0, hw]
   exact hnx _ K4 _ S' (by omega) hlo2 hle2 hOL (by simp [h1]) (by simp) (by simp [h8]) (by simp [h9]) (by simp)
theorem eachO_eq (l : List (List UInt8 × Ex)) (hl : l.length ≤ 20000) (hf : ∀ e ∈ l, DF OrR oracleV (eval tbl noExt) n_tree_Clone_2 e) (H : Heap) :
  ∃ v L, eval tbl noExt (wNo n_tree_each_api_Oracle) [.sl 5 (l.map oracleV), .fn (.func n_tree_Clone_2) [] []] H = some (v, H ++ L) ∧ ∃ S, OL OrR 5 H.length (H ++ L) v l S := by
 have hcl : (l.map oracleV).length = l.length := by simp
 rw [eval_W tw_tree_each_api_Oracle rfl]
 simp [c_tree_each_api_Oracle_w, hcl]
 refine eachO_loop (eval tbl noExt) H.length H l hl hf (fun o => ∃ v L, o = some (v, H ++ L) ∧ ∃ S, OL OrR 5 H.length (H ++ L) v l S) _ (fun φ' K v S hK hn hv h5 => ⟨v, K.drop H.length, ?_, S, ?_⟩) l.length 0 _ H (.nils 5) [] (by omega) (fun _ _ => rfl) (Nat.le_refl _) ⟨List.nodup_nil, fun i hi => by simp at hi, .inl ⟨rfl, rfl, rfl⟩⟩ (by simp) (by simp) (by simp) (by simp) (by simp)
 ·rw [← heap_more hK hn]
  rcases hv.is with ⟨_, rfl, _⟩ | ⟨q, _, _, _, rfl, _⟩ <;> simp [r_tree_each_api_Oracle_w_0, h5]
 ·rw [← heap_more hK hn]; exact hv
theorem clonedExprDF : ∀ (n : Nat) (e : Ex), e.size ≤ n → n ≤ 20000 → DF ExR Ex.cells (eval tbl noExt) n_tree_clonedExpr e := by
 intro n
 induction n with
 | zero => intro e h; cases e; simp only [Ex.size] at h; omega
 | succ n ih =>
  intro e h hn
  obtain ⟨op, m, s, x⟩ := e
  simp only [Ex.size] at h
  have hx := Ex.sizes_ge x
  exact clonedExprW op m s x (by omega) fun e he => ih e (by have := Ex.sizes_mem he; omega) (by omega)
theorem nodup3 {S1 S2 S3 : List Nat} {a b c d : Nat} (h1 : S1.Nodup) (h2 : S2.Nodup) (h3 : S3.Nodup) (g1 : ∀ i ∈ S1, a ≤ i ∧ i < b) (g2 : ∀ i ∈ S2, b ≤ i ∧ i < c) (g3 : ∀ i ∈ S3, c ≤ i ∧ i < d) (hab : a ≤ b) (hbc : b ≤ c) (hcd : c ≤ d) :
  (S1 ++ (S2 ++ S3)).Nodup ∧ ∀ i ∈ S1 ++ (S2 ++ S3), a ≤ i ∧ i < d := by
 refine ⟨List.nodup_append.2 ⟨h1, List.nodup_append.2 ⟨h2, h3, fun x hx y hy e => ?_⟩, fun x hx y hy e => ?_⟩, fun i hi => ?_⟩
 ·have := g2 x hx; have := g3 y hy; omega
 ·have := g1 x hx
  rcases List.mem_append.1 hy with hy | hy
  ·have := g2 y hy; omega
  ·have := g3 y hy; omega
 ·rcases List.mem_append.1 hi with hi | hi
  ·have := g1 i hi; omega
  ·rcases List.mem_append.1 hi with hi | hi
   ·have := g2 i hi; omega
   ·have := g3 i hi; omega
theorem LRep.ofOL {k n : Nat} {K K' : Heap} {v : V} {l : List Ex} {S : List Nat} (h : OL ExR k n K v l S) (hS : ∀ i ∈ S, K'[i]? = K[i]?) : LRep k K' l.length v.strip S (Ex.reps K' l) :=
 h.rep.1.frame hS fun rows S' hs h => Ex.reps_frame (Ex.reps_G.1 h) fun i hi => hS i (hs i hi)
theorem LRep.ofOLS {k n : Nat} {K K' : Heap} {v : V} {l : List Sm} {S : List Nat} (h : OL SmR k n K v l S) (hS : ∀ i ∈ S, K'[i]? = K[i]?) : LRep k K' l.length v.strip S (Sm.reps K' l) :=
 h.rep.1.frame hS fun rows S' hs h => Sm.reps_frame (Sm.reps_G.1 h) fun i hi => hS i (hs i hi)
theorem clonedW (op : Int) (s : List UInt8) (m : Int) (x : List Ex) (b c : List Sm) (g : Bool) (hx : x.length ≤ 20000) (hb : b.length ≤ 20000) (hc : c.length ≤ 20000) (hfx : ∀ e ∈ x, DF ExR Ex.cells (eval tbl noExt) n_tree_clonedExpr e)
  (hfb : ∀ e ∈ b, DF SmR Sm.cells (eval tbl noExt) n_tree_cloned e) (hfc : ∀ e ∈ c, DF SmR Sm.cells (eval tbl noExt) n_tree_cloned e) : DF SmR Sm.cells (eval tbl noExt) n_tree_cloned (.mk op s m x b c g) := by
 intro K
 obtain ⟨v1, L1, hv1, S1, o1⟩ := eachE_eq x hx hfx (List.replicate (K.length + 2) none)
 rw [List.length_replicate] at o1
 obtain ⟨v2, L2, hv2, S2, o2⟩ := eachS_eq b hb hfb (List.replicate (K.length + 2 + L1.length) none)
 rw [List.length_replicate] at o2
 obtain ⟨v3, L3, hv3, S3, o3⟩ := eachS_eq c hc hfc (List.replicate (K.length + 2 + L1.length + L2.length) none)
 rw [List.length_replicate] at o3
 obtain ⟨hnd, hat⟩ := nodup3 o1.nd o2.nd o3.nd (fun i hi => by have := o1.at_ i hi; simp at this; exact this) (fun i hi => by have := o2.at_ i hi; simp at this; exact this) (fun i hi => by have := o3.at_ i hi; simp at this; exact this) (by omega) (by omega) (by omega)
 have f1 : ∀ a b : Option (List V), ∀ i ∈ S1, (K ++ a :: b :: (L1 ++ (L2 ++ L3)))[i]? = (List.replicate (K.length + 2) none ++ L1)[i]? := fun a b i hi => by
  have h1 := o1.at_ i hi
  have := hid_get (m := K.length + 2) (K := K ++ [a, b]) (L := L1 ++ (L2 ++ L3)) (by simp) i h1.1
  simp only [List.append_assoc, List.cons_append, List.nil_append] at this
  rw [this, ← List.append_assoc, List.getElem?_append_left h1.2]
 have f2 : ∀ a b : Option (List V), ∀ i ∈ S2, (K ++ a :: b :: (L1 ++ (L2 ++ L3)))[i]? = (List.replicate (K.length + 2 + L1.length) none ++ L2)[i]? := fun a b i hi => by
  have h1 := o2.at_ i hi
  have := hid_get (m := K.length + 2 + L1.length) (K := K ++ a :: b :: L1) (L := L2 ++ L3) (by simp; omega) i h1.1
  simp only [List.append_assoc, List.cons_append, List.nil_append] at this
  rw [this, ← List.append_assoc, List.getElem?_append_left h1.2]
 have f3 : ∀ a b : Option (List V), ∀ i ∈ S3, (K ++ a :: b :: (L1 ++ (L2 ++ L3)))[i]? = (List.replicate (K.length + 2 + L1.length + L2.length) none ++ L3)[i]? := fun a b i hi => by
  have h1 := o3.at_ i hi
  have := hid_get (m := K.length + 2 + L1.length + L2.length) (K := K ++ a :: b :: (L1 ++ L2)) (L := L3) (by simp; omega) i h1.1
  simp only [List.append_assoc, List.cons_append, List.nil_append] at this
  rw [this]
 refine ⟨[.int .i64 op, .str s, .int .i64 m, v1.strip, v2.strip, v3.strip, .bool g], some [.int .i64 op, .str s, .int .i64 m, v1, v2, v3, .bool g] :: some [.int .i64 op, .str s, .int .i64 m, v1.strip, v2.strip, v3.strip, .bool g] :: (L1 ++ (L2 ++ L3)), S1 ++ (S2 ++ S3), ?_, ⟨v1.strip, v2.strip, v3.strip, S1, S2, S3, rfl, rfl, .ofOL o1 (f1 _ _), .ofOLS o2 (f2 _ _), .ofOLS o3 (f3 _ _)⟩, hnd, fun i hi => ?_⟩
 ·have e1 : K.length + (L1.length + 1 + 1) = K.length + 2 + L1.length := by omega
  have e2 : K.length + (L1.length + L2.length + 1 + 1) = K.length + 2 + L1.length + L2.length := by omega
  have e3 : K.length + (L1.length + (L2.length + 1 + 1)) = K.length + 2 + L1.length + L2.length := by omega
  rw [eval_W tw_tree_cloned rfl]
  rcases o1.is with ⟨_, rfl, _⟩ | ⟨q, _, _, _, rfl, _⟩ <;> rcases o2.is with ⟨_, rfl, _⟩ | ⟨q2, _, _, _, rfl, _⟩ <;> rcases o3.is with ⟨_, rfl, _⟩ | ⟨q3, _, _, _, rfl, _⟩ <;> simp [c_tree_cloned_w, Sm.cells, callOwn, hv1, hv2, hv3, get0, get1, set0, set1, e1, e2, e3]
 ·have := hat i hi
  simp; omega
theorem clonedDF : ∀ (n : Nat) (e : Sm), e.size ≤ n → n ≤ 20000 → DF SmR Sm.cells (eval tbl noExt) n_tree_cloned e := by
 intro n
 induction n with
 | zero => intro e h; cases e; simp only [Sm.size] at h; omega
 | succ n ih =>
  intro e h hn
  obtain ⟨op, s, m, x, b, c, g⟩ := e
  simp only [Sm.size] at h
  have hx := Ex.sizes_ge x
  have hb := Sm.sizes_ge b
  have hc := Sm.sizes_ge c
  exact clonedW op s m x b c g (by omega) (by omega) (by omega) (fun e he => clonedExprDF 20000 e (by have := Ex.sizes_mem he; omega) (by omega))
   (fun e he => ih e (by have := Sm.sizes_mem he; omega) (by omega)) (fun e he => ih e (by have := Sm.sizes_mem he; omega) (by omega))
theorem eachS_small (l : List Sm) (h : Sm.sizes l ≤ 20000) (H : Heap) : ∃ v L, eval tbl noExt (wNo n_tree_each_api_Stmt) [.sl 7 (Sm.rows l), .fn (.func n_tree_cloned) [] []] H = some (v, H ++ L) ∧ ∃ S, OL SmR 7 H.length (H ++ L) v l S :=
 eachS_eq l (by have := Sm.sizes_ge l; omega) (fun e he => clonedDF 20000 e (by have := Sm.sizes_mem he; omega) (Nat.le_refl _)) H
theorem Clone_1DF (x : List UInt8 × List Sm) (h : Sm.sizes x.2 ≤ 20000) : DF PrR procV (eval tbl noExt) n_tree_Clone_1 x := by
 intro K
 obtain ⟨s, b⟩ := x
 obtain ⟨v, L, hv, S, hOL⟩ := eachS_small b h (List.replicate (K.length + 2) none)
 rw [List.length_replicate] at hOL
 have hfr : ∀ a b : Option (List V), ∀ i ∈ S, (K ++ a :: b :: L)[i]? = (List.replicate (K.length + 2) none ++ L)[i]? := fun a b i hi => by
  have := hid_get (m := K.length + 2) (K := K ++ [a, b]) (L := L) (by simp) i (hOL.at_ i hi).1
  simpa using this
 refine ⟨[.str s, v.strip], some [.str s, .sl 7 (Sm.rows b)] :: some [.str s, v.strip] :: L, S, ?_, ⟨v.strip, rfl, .ofOLS hOL (hfr _ _)⟩, hOL.nd, fun i hi => ?_⟩
 ·rw [eval_W tw_tree_Clone_1 rfl]
  rcases hOL.is with ⟨_, rfl, _⟩ | ⟨q, _, _, _, rfl, _⟩ <;> simp [c_tree_Clone_1_w, procV, callOwn, hv, get0, get1, set0, set1]
 ·have := hOL.at_ i hi
  simp at this ⊢; omega
theorem Clone_2DF (x : List UInt8 × Ex) (h : x.2.size ≤ 20000) : DF OrR oracleV (eval tbl noExt) n_tree_Clone_2 x := by
 intro K
 obtain ⟨s, e⟩ := x
 obtain ⟨cells, L, S, hv, hR, hnd, hat⟩ := clonedExprDF 20000 e h (Nat.le_refl _) (List.replicate (K.length + 2) none)
 rw [List.length_replicate] at hat
 have hfr : ∀ a b : Option (List V), ∀ i ∈ S, (K ++ a :: b :: L)[i]? = (List.replicate (K.length + 2) none ++ L)[i]? := fun a b i hi => by
  have := hid_get (m := K.length + 2) (K := K ++ [a, b]) (L := L) (by simp) i (hat i hi).1
  simpa using this
 refine ⟨.str s :: cells, some (.str s :: e.cells) :: some (.str s :: cells) :: L, S, ?_, ⟨cells, rfl, Ex.rep_frame hR (hfr _ _)⟩, hnd, fun i hi => ?_⟩
 ·rw [eval_W tw_tree_Clone_2 rfl]
  obtain ⟨op, m, w, x⟩ := e
  obtain ⟨v0, rfl, hL⟩ := hR
  simp only [Ex.cells] at hv
  rcases hL with ⟨_, rfl, _⟩ | ⟨_, _, _, _, _, rfl, _⟩ <;> simp [c_tree_Clone_2_w, oracleV, Ex.cells, callOwn, hv, get0, get1, set0, set1]
 ·have := hat i hi
  simp at this ⊢; omega
def Pg.rep (H : Heap) (p : Pg) (cells : List V) (S : List Nat) : Prop := ∃ v1 v2 v3 v4 S1 S2 S3 S4, cells = [v1, v2, v3, v4] ∧ S = S1 ++ (S2 ++ (S3 ++ S4)) ∧
 LRep 2 H p.procs.length v1 S1 (GReps PrR H p.procs) ∧ LRep 7 H p.main.length v2 S2 (Sm.reps H p.main) ∧ LRep 7 H p.recover.length v3 S3 (Sm.reps H p.recover) ∧ LRep 5 H p.oracles.length v4 S4 (GReps OrR H p.oracles)
theorem LRep.ofOLG {α : Type} {R : Heap → α → List V → List Nat → Prop} (hR : ∀ H K a r S, R H a r S → (∀ i ∈ S, K[i]? = H[i]?) → R K a r S) {k n : Nat} {K K' : Heap} {v : V} {l : List α} {S : List Nat} (h : OL R k n K v l S) (hS : ∀ i ∈ S, K'[i]? = K[i]?) : LRep k K' l.length v.strip S (GReps R K' l) :=
 h.rep.1.frame hS fun rows S' hs h => GReps.frame hR h fun i hi => hS i (hs i hi)
theorem CloneDF (p : Pg) (hps : p.size ≤ 20000) : DF (fun H p => Pg.rep H p) Pg.cells (eval tbl noExt) n_tree_Clone p := by
 have hs := p.size_eq
 have hp : ∀ x ∈ p.procs, Sm.sizes x.2 ≤ 20000 := fun x hx => by
  have hm : x.2 ∈ p.bodies := by simp only [Pg.bodies, List.mem_map]; exact ⟨x, hx, rfl⟩
  have := sizes_flatten hm
  omega
 have ho : ∀ x ∈ p.oracles, x.2.size ≤ 20000 := fun x hx => by
  have hm : x.2 ∈ p.exprs := by simp only [Pg.exprs, List.mem_map]; exact ⟨x, hx, rfl⟩
  have := Ex.sizes_mem hm
  omega
 intro K
 obtain ⟨v1, L1, hv1, S1, o1⟩ := eachP_eq p.procs (by omega) (fun x hx => Clone_1DF x (hp x hx)) (List.replicate (K.length + 2) none)
 rw [List.length_replicate] at o1
 obtain ⟨v2, L2, hv2, S2, o2⟩ := eachS_small p.main (by omega) (List.replicate (K.length + 2 + L1.length) none)
 rw [List.length_replicate] at o2
 obtain ⟨v3, L3, hv3, S3, o3⟩ := eachS_small p.recover (by omega) (List.replicate (K.length + 2 + L1.length + L2.length) none)
 rw [List.length_replicate] at o3
 obtain ⟨v4, L4, hv4, S4, o4⟩ := eachO_eq p.oracles (by omega) (fun x hx => Clone_2DF x (ho x hx)) (List.replicate (K.length + 2 + L1.length + L2.length + L3.length) none)
 rw [List.length_replicate] at o4
 obtain ⟨hnd', hat'⟩ := nodup3 o2.nd o3.nd o4.nd (fun i hi => by have := o2.at_ i hi; simp at this; exact this) (fun i hi => by have := o3.at_ i hi; simp at this; exact this) (fun i hi => by have := o4.at_ i hi; simp at this; exact this) (by omega) (by omega) (by omega)
 have hfin : ∀ a b : Option (List V), ∀ (m : Nat) (A Z L : Heap), K.length + 2 + A.length = m → ∀ i, m ≤ i → i < m + L.length → (K ++ a :: b :: (A ++ (L ++ Z)))[i]? = (List.replicate m none ++ L)[i]? := fun a b m A Z L hm i h1 h2 => by
  have := hid_get (m := m) (K := K ++ a :: b :: A) (L := L ++ Z) (by simp; omega) i h1
  simp only [List.append_assoc, List.cons_append, List.nil_append] at this
  rw [this, ← List.append_assoc, List.getElem?_append_left (by simpa using h2)]
 have f1 : ∀ a b : Option (List V), ∀ i ∈ S1, (K ++ a :: b :: (L1 ++ (L2 ++ (L3 ++ L4))))[i]? = (List.replicate (K.length + 2) none ++ L1)[i]? := fun a b i hi => by
  have h1 := o1.at_ i hi
  have := hfin a b (K.length + 2) [] (L2 ++ (L3 ++ L4)) L1 (by simp) i h1.1 (by simpa using h1.2)
  simpa using this
 have f2 : ∀ a b : Option (List V), ∀ i ∈ S2, (K ++ a :: b :: (L1 ++ (L2 ++ (L3 ++ L4))))[i]? = (List.replicate (K.length + 2 + L1.length) none ++ L2)[i]? := fun a b i hi => by
  have h1 := o2.at_ i hi
  have := hfin a b (K.length + 2 + L1.length) L1 (L3 ++ L4) L2 (by simp) i h1.1 (by simpa using h1.2)
  simpa using this
 have f3 : ∀ a b : Option (List V), ∀ i ∈ S3, (K ++ a :: b :: (L1 ++ (L2 ++ (L3 ++ L4))))[i]? = (List.replicate (K.length + 2 + L1.length + L2.length) none ++ L3)[i]? := fun a b i hi => by
  have h1 := o3.at_ i hi
  have := hfin a b (K.length + 2 + L1.length + L2.length) (L1 ++ L2) L4 L3 (by simp; omega) i h1.1 (by simpa using h1.2)
  simpa using this
 have f4 : ∀ a b : Option (List V), ∀ i ∈ S4, (K ++ a :: b :: (L1 ++ (L2 ++ (L3 ++ L4))))[i]? = (List.replicate (K.length + 2 + L1.length + L2.length + L3.length) none ++ L4)[i]? := fun a b i hi => by
  have h1 := o4.at_ i hi
  have := hfin a b (K.length + 2 + L1.length + L2.length + L3.length) (L1 ++ (L2 ++ L3)) [] L4 (by simp; omega) i h1.1 (by simpa using h1.2)
  simpa using this
 have hpc : p.cells = [.sl 2 (p.procs.map procV), .sl 7 (Sm.rows p.main), .sl 7 (Sm.rows p.recover), .sl 5 (p.oracles.map oracleV)] := rfl
 refine ⟨[v1.strip, v2.strip, v3.strip, v4.strip], some p.cells :: some [v1.strip, v2.strip, v3.strip, v4.strip] :: (L1 ++ (L2 ++ (L3 ++ L4))), S1 ++ (S2 ++ (S3 ++ S4)), ?_,
  ⟨v1.strip, v2.strip, v3.strip, v4.strip, S1, S2, S3, S4, rfl, rfl, .ofOLG (fun _ _ _ _ _ h hS => h.frame hS) o1 (f1 _ _), .ofOLS o2 (f2 _ _), .ofOLS o3 (f3 _ _), .ofOLG (fun _ _ _ _ _ h hS => h.frame hS) o4 (f4 _ _)⟩, ?_, fun i hi => ?_⟩
 ·have e1 : K.length + (L1.length + 1 + 1) = K.length + 2 + L1.length := by omega
  have e2 : K.length + (L1.length + (L2.length + 1 + 1)) = K.length + 2 + L1.length + L2.length := by omega
  have e3 : K.length + (L1.length + (L2.length + (L3.length + 1 + 1))) = K.length + 2 + L1.length + L2.length + L3.length := by omega
  have e4 : K.length + (L1.length + L2.length + 1 + 1) = K.length + 2 + L1.length + L2.length := by omega
  have e5 : K.length + (L1.length + (L2.length + L3.length) + 1 + 1) = K.length + 2 + L1.length + L2.length + L3.length := by omega
  rw [eval_W tw_tree_Clone rfl, hpc]
  rcases o1.is with ⟨_, rfl, _⟩ | ⟨q, _, _, _, rfl, _⟩ <;> rcases o2.is with ⟨_, rfl, _⟩ | ⟨q2, _, _, _, rfl, _⟩ <;> rcases o3.is with ⟨_, rfl, _⟩ | ⟨q3, _, _, _, rfl, _⟩ <;> rcases o4.is with ⟨_, rfl, _⟩ | ⟨q4, _, _, _, rfl, _⟩ <;> simp [c_tree_Clone_w, callOwn, hv1, hv2, hv3, hv4, get0, get1, set0, set1, e1, e2, e3, e4, e5]
 ·refine List.nodup_append.2 ⟨o1.nd, hnd', fun x hx y hy e => ?_⟩
  have h1 := o1.at_ x hx
  have h2 := hat' y hy
  simp at h1
  omega
 ·rcases List.mem_append.1 hi with hi | hi
  ·have := o1.at_ i hi; simp at this ⊢; omega
  ·have := hat' i hi; simp; omega
set_option maxHeartbeats 1000000
theorem frzL_app {f : Heap → V → Option (V × Heap)} : ∀ {a b us vs : List V} {H H1 H2 : Heap}, frzL f H a = some (us, H1) → frzL f H1 b = some (vs, H2) → frzL f H (a ++ b) = some (us ++ vs, H2)
 | [], b, us, vs, H, H1, H2, h1, h2 => by
  simp only [frzL, Option.some.injEq, Prod.mk.injEq] at h1
  obtain ⟨rfl, rfl⟩ := h1
  exact h2
 | x :: a, b, us, vs, H, H1, H2, h1, h2 => by
  simp only [frzL] at h1
  split at h1
  ·rename_i u K hx
   split at h1
   ·rename_i us' K' ha
    simp only [Option.some.injEq, Prod.mk.injEq] at h1
    obtain ⟨rfl, rfl⟩ := h1
    simp only [List.cons_append, frzL, hx, frzL_app ha h2]
   ·cases h1
  ·cases h1
theorem frzL_cons {f : Heap → V → Option (V × Heap)} {x u : V} {a us : List V} {H H1 H2 : Heap} (h1 : f H x = some (u, H1)) (h2 : frzL f H1 a = some (us, H2)) : frzL f H (x :: a) = some (u :: us, H2) := by
 simp only [frzL, h1, h2]
theorem frz_list {k n : Nat} {H : Heap} {len : Nat} {v : V} {S : List Nat} {RR : List (List V) → List Nat → Prop} {rowsL : List (List V)} (h : LRep k H len v S RR) (hnd : S.Nodup)
  (hfl : ∀ rows S', RR rows S' → rows.flatten.length = len * k) (hw : ∀ r ∈ rowsL, r.length = k) (hl : rowsL.length = len)
  (hin : ∀ rows S' i, RR rows S' → S'.Nodup → i ∉ S' → ∃ K, frzL (frzV n) (H.set i none) rows.flatten = some (rowsL.flatten, K) ∧ ∀ j, j ∉ S' → K[j]? = (H.set i none)[j]?) :
  ∃ K, frzV (n + 1) H v = some (.sl k rowsL, K) ∧ ∀ j, j ∉ S → K[j]? = H[j]? := by
 rcases h with ⟨rfl, rfl, rfl⟩ | ⟨i, cap, junk, rows, S', rfl, rfl, h1, h2, _⟩
 ·rw [List.length_eq_zero_iff] at hl
  subst hl
  exact ⟨H, by simp [frzV], fun _ _ => rfl⟩
 ·obtain ⟨hi, hS'⟩ := List.nodup_cons.1 hnd
  obtain ⟨K, hK, hfr⟩ := hin rows S' i h2 hS' hi
  have hf := hfl rows S' h2
  refine ⟨K, ?_, fun j hj => ?_⟩
  ·rw [frzV, h1]
   simp only
   rw [if_pos (by rw [List.length_append]; omega), List.drop_zero, List.take_left' (by omega), hK]
   have := chunk_flatten (k := k) (rows := rowsL) [] hw
   rw [List.nil_append, hl, List.length_nil] at this
   simp only [this]
  ·have hj1 : j ≠ i := fun h => hj (by simp [h])
   have hj2 : j ∉ S' := fun h => hj (by simp [h])
   rw [hfr j hj2, List.getElem?_set_ne (fun h => hj1 h.symm)]
theorem Ex.rows_w (l : List Ex) : ∀ r ∈ Ex.rows l, r.length = 4 := by
 intro r hr
 rw [Ex.rows_eq] at hr
 obtain ⟨e, _, rfl⟩ := List.mem_map.1 hr
 cases e; rfl
theorem Sm.rows_w (l : List Sm) : ∀ r ∈ Sm.rows l, r.length = 7 := by
 intro r hr
 rw [Sm.rows_eq] at hr
 obtain ⟨e, _, rfl⟩ := List.mem_map.1 hr
 cases e; rfl
mutual
theorem Ex.frz : ∀ (e : Ex) (n : Nat) (H : Heap) (cells : List V) (S : List Nat), e.rep H cells S → S.Nodup → e.size ≤ n → ∃ K, frzL (frzV n) H cells = some (e.cells, K) ∧ ∀ j, j ∉ S → K[j]? = H[j]?
 | .mk op m s x, n, H, cells, S, h, hnd, hn => by
  obtain ⟨v, rfl, hL⟩ := h
  simp only [Ex.size] at hn
  obtain ⟨n', rfl⟩ : ∃ n', n = n' + 1 := ⟨n - 1, by omega⟩
  obtain ⟨K, hK, hfr⟩ := frz_list (n := n') (rowsL := Ex.rows x) hL hnd (fun rows S' h => (Ex.reps_len h).2.2) (Ex.rows_w x) (Ex.rows_len x) (fun rows S' i h h2 h3 =>
   Ex.frzs x n' (H.set i none) rows S' (Ex.reps_frame h fun j hj => List.getElem?_set_ne (fun e => h3 (by rw [e]; exact hj))) h2 (by omega))
  refine ⟨K, ?_, hfr⟩
  refine frzL_cons (H1 := H) (by simp [frzV]) (frzL_cons (H1 := H) (by simp [frzV]) (frzL_cons (H1 := H) (by simp [frzV]) (frzL_cons hK rfl)))
theorem Ex.frzs : ∀ (l : List Ex) (n : Nat) (H : Heap) (rows : List (List V)) (S : List Nat), Ex.reps H l rows S → S.Nodup → Ex.sizes l ≤ n → ∃ K, frzL (frzV n) H rows.flatten = some ((Ex.rows l).flatten, K) ∧ ∀ j, j ∉ S → K[j]? = H[j]?
 | [], n, H, rows, S, ⟨h1, h2⟩, _, _ => ⟨H, by rw [h1]; rfl, fun _ _ => rfl⟩
 | e :: l, n, H, rows, S, ⟨r, rs, S1, S2, h1, h2, h3, h4⟩, hnd, hn => by
  subst h1; subst h2
  simp only [Ex.sizes] at hn
  obtain ⟨d1, d2, d3⟩ := List.nodup_append.1 hnd
  obtain ⟨K1, k1, f1⟩ := Ex.frz e n H r S1 h3 d1 (by omega)
  obtain ⟨K2, k2, f2⟩ := Ex.frzs l n K1 rs S2 (Ex.reps_frame h4 fun j hj => f1 j fun h => d3 j h j hj rfl) d2 (by omega)
  refine ⟨K2, by rw [List.flatten_cons, Ex.rows, List.flatten_cons]; exact frzL_app k1 k2, fun j hj => ?_⟩
  rw [f2 j fun h => hj (List.mem_append_right _ h), f1 j fun h => hj (List.mem_append_left _ h)]
end
mutual
theorem Sm.frz : ∀ (e : Sm) (n : Nat) (H : Heap) (cells : List V) (S : List Nat), e.rep H cells S → S.Nodup → e.size ≤ n → ∃ K, frzL (frzV n) H cells = some (e.cells, K) ∧ ∀ j, j ∉ S → K[j]? = H[j]?
 | .mk op s m x b c g, n, H, cells, S, h, hnd, hn => by
  obtain ⟨v1, v2, v3, S1, S2, S3, rfl, rfl, l1, l2, l3⟩ := h
  simp only [Sm.size] at hn
  obtain ⟨n', rfl⟩ : ∃ n', n = n' + 1 := ⟨n - 1, by omega⟩
  obtain ⟨d1, d23, d123⟩ := List.nodup_append.1 hnd
  obtain ⟨d2, d3, d4⟩ := List.nodup_append.1 d23
  obtain ⟨K1, k1, f1⟩ := frz_list (n := n') (rowsL := Ex.rows x) l1 d1 (fun rows S' h => (Ex.reps_len h).2.2) (Ex.rows_w x) (Ex.rows_len x) (fun rows S' i h h2 h3 =>
   Ex.frzs x n' (H.set i none) rows S' (Ex.reps_frame h fun j hj => List.getElem?_set_ne (fun e => h3 (by rw [e]; exact hj))) h2 (by omega))
  have l2' : LRep 7 K1 b.length v2 S2 (Sm.reps K1 b) := l2.frame (fun i hi => f1 i fun h => d123 i h i (List.mem_append_left _ hi) rfl) fun rows S' hs h => Sm.reps_frame h fun i hi => f1 i fun h => d123 i h i (List.mem_append_left _ (hs i hi)) rfl
  obtain ⟨K2, k2, f2⟩ := frz_list (n := n') (rowsL := Sm.rows b) l2' d2 (fun rows S' h => (Sm.reps_len h).2.2) (Sm.rows_w b) (Sm.rows_len b) (fun rows S' i h h2 h3 =>
   Sm.frzs b n' (K1.set i none) rows S' (Sm.reps_frame h fun j hj => List.getElem?_set_ne (fun e => h3 (by rw [e]; exact hj))) h2 (by omega))
  have g3 : ∀ i ∈ S3, K2[i]? = H[i]? := fun i hi => by
   rw [f2 i fun h => d4 i h i hi rfl, f1 i fun h => d123 i h i (List.mem_append_right _ hi) rfl]
  have l3' : LRep 7 K2 c.length v3 S3 (Sm.reps K2 c) := l3.frame g3 fun rows S' hs h => Sm.reps_frame h fun i hi => g3 i (hs i hi)
  obtain ⟨K3, k3, f3⟩ := frz_list (n := n') (rowsL := Sm.rows c) l3' d3 (fun rows S' h => (Sm.reps_len h).2.2) (Sm.rows_w c) (Sm.rows_len c) (fun rows S' i h h2 h3 =>
   Sm.frzs c n' (K2.set i none) rows S' (Sm.reps_frame h fun j hj => List.getElem?_set_ne (fun e => h3 (by rw [e]; exact hj))) h2 (by omega))
  refine ⟨K3, ?_, fun j hj => ?_⟩
  ·refine frzL_cons (H1 := H) (by simp [frzV]) (frzL_cons (H1 := H) (by simp [frzV]) (frzL_cons (H1 := H) (by simp [frzV]) (frzL_cons k1 (frzL_cons k2 (frzL_cons k3 (frzL_cons (H1 := K3) (by simp [frzV]) rfl))))))
  ·rw [f3 j fun h => hj (List.mem_append_right _ (List.mem_append_right _ h)), f2 j fun h => hj (List.mem_append_right _ (List.mem_append_left _ h)), f1 j fun h => hj (List.mem_append_left _ h)]
theorem Sm.frzs : ∀ (l : List Sm) (n : Nat) (H : Heap) (rows : List (List V)) (S : List Nat), Sm.reps H l rows S → S.Nodup → Sm.sizes l ≤ n → ∃ K, frzL (frzV n) H rows.flatten = some ((Sm.rows l).flatten, K) ∧ ∀ j, j ∉ S → K[j]? = H[j]?
 | [], n, H, rows, S, ⟨h1, h2⟩, _, _ => ⟨H, by rw [h1]; rfl, fun _ _ => rfl⟩
 | e :: l, n, H, rows, S, ⟨r, rs, S1, S2, h1, h2, h3, h4⟩, hnd, hn => by
  subst h1; subst h2
  simp only [Sm.sizes] at hn
  obtain ⟨d1, d2, d3⟩ := List.nodup_append.1 hnd
  obtain ⟨K1, k1, f1⟩ := Sm.frz e n H r S1 h3 d1 (by omega)
  obtain ⟨K2, k2, f2⟩ := Sm.frzs l n K1 rs S2 (Sm.reps_frame h4 fun j hj => f1 j fun h => d3 j h j hj rfl) d2 (by omega)
  refine ⟨K2, by rw [List.flatten_cons, Sm.rows, List.flatten_cons]; exact frzL_app k1 k2, fun j hj => ?_⟩
  rw [f2 j fun h => hj (List.mem_append_right _ h), f1 j fun h => hj (List.mem_append_left _ h)]
end
theorem Sm.frzList {H : Heap} {l : List Sm} {v : V} {S : List Nat} (h : LRep 7 H l.length v S (Sm.reps H l)) (hnd : S.Nodup) {n : Nat} (hn : Sm.sizes l ≤ n) : ∃ K, frzV (n + 1) H v = some (.sl 7 (Sm.rows l), K) ∧ ∀ j, j ∉ S → K[j]? = H[j]? :=
 frz_list (n := n) (rowsL := Sm.rows l) h hnd (fun rows S' h => (Sm.reps_len h).2.2) (Sm.rows_w l) (Sm.rows_len l) (fun rows S' i h h2 h3 =>
  Sm.frzs l n (H.set i none) rows S' (Sm.reps_frame h fun j hj => List.getElem?_set_ne (fun e => h3 (by rw [e]; exact hj))) h2 hn)
end Go.AM.Spec
