/-
 The parts of this proof that speak of the functions one by one.
-/
import Derived.Test.YtkpopdcojheniaaSpecDp
import Derived.Test.YtkpopdcojheniaaSpecSi
namespace Go.AM.Spec
set_option linter.unusedVariables false
set_option linter.unusedSimpArgs false
set_option maxHeartbeats 1000000
theorem GReps.at_ {α : Type} {R : Heap → α → List V → List Nat → Prop} {H : Heap} : ∀ {l : List α} {rows : List (List V)} {S : List Nat} {k : Nat} {e : α}, GReps R H l rows S → l[k]? = some e →
  ∃ r S1 Sk S2, rows[k]? = some r ∧ S = S1 ++ (Sk ++ S2) ∧ R H e r Sk ∧
   ∀ (H' : Heap) (e' : α) (r' : List V) (Sk' : List Nat), (∀ H K a r S, R H a r S → (∀ i ∈ S, K[i]? = H[i]?) → R K a r S) → (∀ i ∈ S1 ++ S2, H'[i]? = H[i]?) → R H' e' r' Sk' → GReps R H' (l.set k e') (rows.set k r') (S1 ++ (Sk' ++ S2))
 | [], _, _, k, e, _, h => by simp at h
 | x :: l, _, _, 0, e, ⟨r, rs, S1, S2, rfl, rfl, h3, h4⟩, h => by
  simp only [List.getElem?_cons_zero, Option.some.injEq] at h
  subst h
  refine ⟨r, [], S1, S2, rfl, rfl, h3, fun H' e' r' Sk' hR hS h5 => ?_⟩
  exact ⟨r', rs, Sk', S2, rfl, rfl, h5, GReps.frame hR h4 fun i hi => hS i (by simp [hi])⟩
 | x :: l, _, _, k + 1, e, ⟨r, rs, S1, S2, rfl, rfl, h3, h4⟩, h => by
  simp only [List.getElem?_cons_succ] at h
  obtain ⟨r1, A, Sk, B, h5, rfl, h6, h7⟩ := GReps.at_ h4 h
  refine ⟨r1, S1 ++ A, Sk, B, by simpa using h5, by simp, h6, fun H' e' r' Sk' hR hS h8 => ?_⟩
  refine ⟨r, rs.set k r', S1, A ++ (Sk' ++ B), rfl, by simp, hR _ _ _ _ _ h3 (fun i hi => hS i (by simp [hi])), h7 H' e' r' Sk' hR (fun i hi => hS i ?_) h8⟩
  simp only [List.mem_append] at hi ⊢
  rcases hi with h | h
  ·exact .inl (.inr h)
  ·exact .inr h
theorem flat_at {k w : Nat} {rows : List (List V)} (hw : ∀ r ∈ rows, r.length = w) {r : List V} (h : rows[k]? = some r) (j : Nat) (hj : j < w) : rows.flatten[k * w + j]? = r[j]? := by
 induction rows generalizing k with
 | nil => simp at h
 | cons x rows ih =>
  have hx := hw x (by simp)
  cases k with
  | zero =>
   simp only [List.getElem?_cons_zero, Option.some.injEq] at h
   subst h
   rw [List.flatten_cons, List.getElem?_append_left (by omega)]; simp
  | succ k =>
   simp only [List.getElem?_cons_succ] at h
   rw [List.flatten_cons, List.getElem?_append_right (by rw [hx, Nat.add_mul]; omega), ← ih (fun r hr => hw r (by simp [hr])) h]
   congr 1; rw [hx, Nat.add_mul]; omega
theorem flat_set {k w : Nat} {rows : List (List V)} (hw : ∀ r ∈ rows, r.length = w) {r : List V} (h : rows[k]? = some r) (j : Nat) (hj : j < w) (c : V) : rows.flatten.set (k * w + j) c = (rows.set k (r.set j c)).flatten := by
 induction rows generalizing k with
 | nil => simp at h
 | cons x rows ih =>
  have hx := hw x (by simp)
  cases k with
  | zero =>
   simp only [List.getElem?_cons_zero, Option.some.injEq] at h
   subst h
   rw [List.flatten_cons, List.set_append_left _ _ (by omega)]; simp
  | succ k =>
   simp only [List.getElem?_cons_succ] at h
   rw [List.flatten_cons, List.set_append_right _ _ (by rw [hx, Nat.add_mul]; omega), List.set_cons_succ, List.flatten_cons, ← ih (fun r hr => hw r (by simp [hr])) h]
   congr 2; rw [hx, Nat.add_mul]; omega
theorem flat_len {w : Nat} {rows : List (List V)} (hw : ∀ r ∈ rows, r.length = w) : rows.flatten.length = rows.length * w := by
 induction rows with
 | nil => simp
 | cons x rows ih => rw [List.flatten_cons, List.length_append, hw x (by simp), ih (fun r hr => hw r (by simp [hr])), List.length_cons, Nat.add_mul]; omega
theorem get_len {α : Type} {l : List α} {k : Nat} {e : α} (h : l[k]? = some e) : k < l.length := by
 rcases Nat.lt_or_ge k l.length with h' | h'
 ·exact h'
 ·rw [List.getElem?_eq_none h'] at h; cases h
theorem flat_room {k w : Nat} {rows : List (List V)} (hw : ∀ r ∈ rows, r.length = w) {r : List V} (h : rows[k]? = some r) : k * w + w ≤ rows.flatten.length := by
 have := get_len h
 rw [flat_len hw, ← Nat.succ_mul]
 exact Nat.mul_le_mul_right w (by omega)
theorem row_at {k w : Nat} {rows : List (List V)} (hw : ∀ r ∈ rows, r.length = w) {r : List V} (h : rows[k]? = some r) (junk : List V) (j : Nat) (hj : j < w) : (rows.flatten ++ junk)[k * w + j]? = r[j]? := by
 have := flat_room hw h
 rw [List.getElem?_append_left (by omega), flat_at hw h j hj]
theorem row_set {k w : Nat} {rows : List (List V)} (hw : ∀ r ∈ rows, r.length = w) {r : List V} (h : rows[k]? = some r) (junk : List V) (j : Nat) (hj : j < w) (c : V) : (rows.flatten ++ junk).set (k * w + j) c = (rows.set k (r.set j c)).flatten ++ junk := by
 have := flat_room hw h
 rw [List.set_append_left _ _ (by omega), flat_set hw h j hj]
theorem row_take {k w : Nat} {rows : List (List V)} (hw : ∀ r ∈ rows, r.length = w) {r : List V} (h : rows[k]? = some r) (junk : List V) : ((rows.flatten ++ junk).drop (k * w)).take w = r := by
 have h1 := flat_room hw h
 have h2 := hw r (List.mem_of_getElem? h)
 apply List.ext_getElem?
 intro j
 by_cases hj : j < w
 ·rw [List.getElem?_take_of_lt hj, List.getElem?_drop, row_at hw h junk j hj]
 ·rw [List.getElem?_take_eq_none (by omega), List.getElem?_eq_none (by omega)]
theorem LRep.map {k : Nat} {H : Heap} {n : Nat} {v : V} {S : List Nat} {RR RR' : List (List V) → List Nat → Prop} (h : LRep k H n v S RR) (hh : ∀ rows S', RR rows S' → RR' rows S') : LRep k H n v S RR' := by
 rcases h with h | ⟨i, cap, junk, rows, S', h1, h2, h3, h4, h5⟩
 ·exact .inl h
 ·exact .inr ⟨i, cap, junk, rows, S', h1, h2, h3, hh _ _ h4, h5⟩
theorem GReps.width {α : Type} {R : Heap → α → List V → List Nat → Prop} {w : Nat} (hw : ∀ H a r S, R H a r S → r.length = w) {H : Heap} : ∀ {l : List α} {rows : List (List V)} {S : List Nat}, GReps R H l rows S → rows.length = l.length ∧ ∀ r ∈ rows, r.length = w
 | [], _, _, ⟨rfl, _⟩ => by simp
 | e :: l, _, _, ⟨r, rs, S1, S2, rfl, _, h3, h4⟩ => by
  obtain ⟨h5, h6⟩ := GReps.width hw h4
  refine ⟨by simp [h5], fun r' hr => ?_⟩
  rcases List.mem_cons.1 hr with rfl | hr
  ·exact hw _ _ _ _ h3
  ·exact h6 _ hr
theorem LRep.openG {α : Type} {R : Heap → α → List V → List Nat → Prop} {w : Nat} (hR : ∀ H K a r S, R H a r S → (∀ i ∈ S, K[i]? = H[i]?) → R K a r S) (hw : ∀ H a r S, R H a r S → r.length = w)
  {H : Heap} {l : List α} {v : V} {S : List Nat} (h : LRep w H l.length v S (GReps R H l)) {k : Nat} {e : α} (he : l[k]? = some e) :
  ∃ (i cap : Nat) (junk : List V) (rows : List (List V)) (S1 Sk S2 : List Nat) (r : List V), v = .mg w i 0 l.length cap ∧ S = i :: (S1 ++ (Sk ++ S2)) ∧ H[i]? = some (some (rows.flatten ++ junk)) ∧ rows[k]? = some r ∧ R H e r Sk ∧ (∀ r ∈ rows, r.length = w) ∧ rows.length = l.length ∧
   ∀ (H' : Heap) (e' : α) (r' : List V) (Sk' : List Nat), (∀ j ∈ S1 ++ S2, H'[j]? = H[j]?) → H'[i]? = some (some ((rows.set k r').flatten ++ junk)) → R H' e' r' Sk' →
    LRep w H' (l.set k e').length v (i :: (S1 ++ (Sk' ++ S2))) (GReps R H' (l.set k e')) := by
 rcases h with ⟨h0, _, _⟩ | ⟨i, cap, junk, rows, S', rfl, rfl, h1, h2, hcap⟩
 ·rw [List.length_eq_zero_iff] at h0
  subst h0
  simp at he
 ·obtain ⟨g1, g2⟩ := h2.width hw
  obtain ⟨r, S1, Sk, S2, h3, rfl, h4, h5⟩ := GReps.at_ h2 he
  refine ⟨i, cap, junk, rows, S1, Sk, S2, r, rfl, rfl, h1, h3, h4, g2, g1, fun H' e' r' Sk' hS hi h6 => ?_⟩
  have hG := h5 H' e' r' Sk' hR hS h6
  refine .inr ⟨i, cap, junk, rows.set k r', _, by rw [List.length_set], rfl, hi, hG, ?_⟩
  rw [List.length_append, hG.flat hw, List.length_set]
  rw [List.length_append, h2.flat hw] at hcap
  exact hcap
theorem SmR.frame : ∀ (H K : Heap) (a : Sm) (r : List V) (S : List Nat), SmR H a r S → (∀ i ∈ S, K[i]? = H[i]?) → SmR K a r S := fun _ _ _ _ _ h hS => Sm.rep_frame h hS
theorem ExR.frame : ∀ (H K : Heap) (a : Ex) (r : List V) (S : List Nat), ExR H a r S → (∀ i ∈ S, K[i]? = H[i]?) → ExR K a r S := fun _ _ _ _ _ h hS => Ex.rep_frame h hS
theorem SmR.len : ∀ (H : Heap) (a : Sm) (r : List V) (S : List Nat), SmR H a r S → r.length = 7 := fun _ _ _ _ h => Sm.rep_len h
theorem ExR.len : ∀ (H : Heap) (a : Ex) (r : List V) (S : List Nat), ExR H a r S → r.length = 4 := fun _ _ _ _ h => Ex.rep_len h
def Less (A B : List Nat) : Prop := ∃ T, (A ++ T).Perm B
theorem Less.refl (A : List Nat) : Less A A := ⟨[], by simp⟩
theorem Less.of_perm {A B : List Nat} (h : A.Perm B) : Less A B := ⟨[], by simpa using h⟩
theorem Less.mem {A B : List Nat} (h : Less A B) : ∀ {i}, i ∈ A → i ∈ B := by
 obtain ⟨T, h⟩ := h
 exact fun hi => h.mem_iff.1 (List.mem_append_left _ hi)
theorem Less.nodup {A B : List Nat} (h : Less A B) (hB : B.Nodup) : A.Nodup := by
 obtain ⟨T, h⟩ := h
 exact (List.nodup_append.1 (h.nodup_iff.2 hB)).1
theorem Less.mid {A B : List Nat} (h : Less A B) (X Y : List Nat) : Less (X ++ (A ++ Y)) (X ++ (B ++ Y)) := by
 obtain ⟨T, h⟩ := h
 refine ⟨T, ?_⟩
 rw [List.append_assoc, List.append_assoc]
 refine List.Perm.append_left X ?_
 refine List.Perm.trans (List.Perm.append_left A List.perm_append_comm) ?_
 rw [← List.append_assoc]
 exact List.Perm.append_right Y h
theorem Less.cons {A B : List Nat} (h : Less A B) (i : Nat) : Less (i :: A) (i :: B) := by
 have := h.mid [i] []
 simpa using this
theorem Less.trans {A B C : List Nat} (h : Less A B) (h' : Less B C) : Less A C := by
 obtain ⟨T, h⟩ := h
 obtain ⟨U, h'⟩ := h'
 refine ⟨T ++ U, ?_⟩
 rw [← List.append_assoc]
 exact (List.Perm.append_right U h).trans h'
set_option maxRecDepth 10000
def Sm.setOp : Sm → Int → Sm
 | .mk _ s n e b c g, op => .mk op s n e b c g
def Sm.unmark : Sm → Sm
 | .mk op s n e b c _ => .mk op s n e b c false
def Ex.half : Ex → Ex
 | .mk op n s x => .mk op n (s.take (s.length / 2)) x
def halfLast (l : List Ex) : List Ex := match l.getLast? with
 | some e => l.set (l.length - 1) e.half
 | none => l
def Sm.tear : Sm → Sm
 | .mk op s n e b c g => .mk op s n (halfLast e) b c g
def Sm.withSub : Sm → Int → List Sm → Sm
 | .mk op s m e b c g, n, l => if n % 2 = 1 then .mk op s m e b l g else .mk op s m e l c g
def swapAt (l : List Sm) (k : Nat) : List Sm := match l[k]?, l[k + 1]? with
 | some x, some y => (l.set k y).set (k + 1) x
 | _, _ => l
def edit (kind : Int) (l : List Sm) (k : Nat) : List Sm := match l[k]? with
 | none => l
 | some x => if kind = 2 then l.set k (x.setOp 9) else if kind = 6 then l.set k x.unmark else if kind = 7 then l.set k x.tear else if kind = 5 then swapAt l k else l.eraseIdx k
def editAt (kind : Int) : List Sm → Nat → List Int → List Sm
 | b, k, [] => edit kind b k
 | b, k, n :: ws => match b[k]? with
  | none => b
  | some x => b.set k (x.withSub n (editAt kind (x.sub n) (n / 2).toNat ws))
def EditRes (f : Nat) (first cap : List V) (H : Heap) (l' : List Sm) (k : Nat) (v : V) (S : List Nat) : Prop :=
 ∃ K i n c S', eval tbl noExt (wNo f) (first ++ [v, .int .i64 k] ++ cap) H = some (.mg 7 i 0 n c, K) ∧ LRep 7 K l'.length (.mg 7 i 0 n c) S' (Sm.reps K l') ∧ Less S' S ∧ ∀ j, j ∉ S → K[j]? = H[j]?
theorem by_1W {H : Heap} {i off : Nat} {cs : List V} (hi : H[i]? = some (some cs)) (ho : off + 1 ≤ cs.length) : eval tbl noExt (wNo n_rewrite_by_1) [.ptr i off] H = some (.tup [], H.set i (some (cs.set off (.int .i64 9)))) := by
 rw [eval_W tw_rewrite_by_1 rfl]
 simp [c_rewrite_by_1_w, hi, ho]
theorem by_2W {H : Heap} {i off : Nat} {cs : List V} (hi : H[i]? = some (some cs)) (ho : off + 6 + 1 ≤ cs.length) : eval tbl noExt (wNo n_rewrite_by_2) [.ptr i off] H = some (.tup [], H.set i (some (cs.set (off + 6) (.bool false)))) := by
 rw [eval_W tw_rewrite_by_2 rfl]
 simp [c_rewrite_by_2_w, hi, ho]
theorem LRep.openS {H : Heap} {l : List Sm} {v : V} {S : List Nat} (h : LRep 7 H l.length v S (Sm.reps H l)) {k : Nat} {e : Sm} (he : l[k]? = some e) :
  ∃ (i cap : Nat) (junk : List V) (rows : List (List V)) (S1 Sk S2 : List Nat) (r : List V), v = .mg 7 i 0 l.length cap ∧ S = i :: (S1 ++ (Sk ++ S2)) ∧ H[i]? = some (some (rows.flatten ++ junk)) ∧ rows[k]? = some r ∧ e.rep H r Sk ∧ (∀ r ∈ rows, r.length = 7) ∧ rows.length = l.length ∧
   ∀ (H' : Heap) (e' : Sm) (r' : List V) (Sk' : List Nat), (∀ j ∈ S1 ++ S2, H'[j]? = H[j]?) → H'[i]? = some (some ((rows.set k r').flatten ++ junk)) → e'.rep H' r' Sk' →
    LRep 7 H' (l.set k e').length v (i :: (S1 ++ (Sk' ++ S2))) (Sm.reps H' (l.set k e')) := by
 obtain ⟨i, cap, junk, rows, S1, Sk, S2, r, h1, h2, h3, h4, h5, h6, h7, h8⟩ := LRep.openG SmR.frame SmR.len (h.map fun rows S' => Sm.reps_G.2) he
 exact ⟨i, cap, junk, rows, S1, Sk, S2, r, h1, h2, h3, h4, h5, h6, h7, fun H' e' r' Sk' a b c => (h8 H' e' r' Sk' a b c).map fun rows S' => Sm.reps_G.1⟩
theorem LRep.openE {H : Heap} {l : List Ex} {v : V} {S : List Nat} (h : LRep 4 H l.length v S (Ex.reps H l)) {k : Nat} {e : Ex} (he : l[k]? = some e) :
  ∃ (i cap : Nat) (junk : List V) (rows : List (List V)) (S1 Sk S2 : List Nat) (r : List V), v = .mg 4 i 0 l.length cap ∧ S = i :: (S1 ++ (Sk ++ S2)) ∧ H[i]? = some (some (rows.flatten ++ junk)) ∧ rows[k]? = some r ∧ e.rep H r Sk ∧ (∀ r ∈ rows, r.length = 4) ∧ rows.length = l.length ∧
   ∀ (H' : Heap) (e' : Ex) (r' : List V) (Sk' : List Nat), (∀ j ∈ S1 ++ S2, H'[j]? = H[j]?) → H'[i]? = some (some ((rows.set k r').flatten ++ junk)) → e'.rep H' r' Sk' →
    LRep 4 H' (l.set k e').length v (i :: (S1 ++ (Sk' ++ S2))) (Ex.reps H' (l.set k e')) := by
 obtain ⟨i, cap, junk, rows, S1, Sk, S2, r, h1, h2, h3, h4, h5, h6, h7, h8⟩ := LRep.openG ExR.frame ExR.len (h.map fun rows S' => Ex.reps_G.2) he
 exact ⟨i, cap, junk, rows, S1, Sk, S2, r, h1, h2, h3, h4, h5, h6, h7, fun H' e' r' Sk' a b c => (h8 H' e' r' Sk' a b c).map fun rows S' => Ex.reps_G.1⟩
theorem nodup_open {i : Nat} {S1 Sk S2 : List Nat} (h : (i :: (S1 ++ (Sk ++ S2))).Nodup) : i ∉ S1 ∧ i ∉ Sk ∧ i ∉ S2 ∧ Sk.Nodup ∧ (∀ j ∈ Sk, j ∉ S1) ∧ (∀ j ∈ Sk, j ∉ S2) := by
 obtain ⟨h1, h2⟩ := List.nodup_cons.1 h
 obtain ⟨h3, h4, h5⟩ := List.nodup_append.1 h2
 obtain ⟨h6, h7, h8⟩ := List.nodup_append.1 h4
 simp only [List.mem_append, not_or] at h1
 exact ⟨h1.1, h1.2.1, h1.2.2, h6, fun j hj hj1 => h5 j hj1 j (List.mem_append_left _ hj) rfl, fun j hj hj2 => h8 j hj j hj2 rfl⟩
theorem set_ne {H : Heap} {i : Nat} {x : Option (List V)} {j : Nat} (h : j ≠ i) : (H.set i x)[j]? = H[j]? := List.getElem?_set_ne (fun e => h e.symm)
theorem set_eq {H : Heap} {i : Nat} {x y : Option (List V)} (h : H[i]? = some y) : (H.set i x)[i]? = some x := List.getElem?_set_self (get_len h)
theorem change_1W {H : Heap} {f i n c b k : Nat} {K : Heap} {r : V} (hf : f < yBase) (hb : H[b]? = some (some [.fn (.func f) [] []])) (hk : k < n) (h : eval tbl noExt (wNo f) [.ptr i (k * 7)] H = some (r, K)) :
  eval tbl noExt (wNo n_rewrite_change_1) [.mg 7 i 0 n c, .int .i64 k, .ptr b 0] H = some (.mg 7 i 0 n c, K) := by
 have hk' : (k : Int) < n := by omega
 have h' : eval tbl noExt (wNo f) [.ptr i (0 + k * 7)] H = some (r, K) := by rw [Nat.zero_add]; exact h
 rw [eval_W tw_rewrite_change_1 rfl]
 simp [c_rewrite_change_1_w, hb, hk, hk', h, h', hf]
theorem weak_ok {H : Heap} {l : List Sm} {v : V} {S : List Nat} {k b : Nat} {x : Sm} (hL : LRep 7 H l.length v S (Sm.reps H l)) (hnd : S.Nodup) (hx : l[k]? = some x) (hb : H[b]? = some (some [.fn (.func n_rewrite_by_1) [] []])) :
  EditRes n_rewrite_change_1 [] [.ptr b 0] H (l.set k (x.setOp 9)) k v S := by
 obtain ⟨i, cap, junk, rows, S1, Sk, S2, r, rfl, rfl, hi, hr, he, hw, hl, hback⟩ := hL.openS hx
 obtain ⟨n1, n2, n3, n4, n5, n6⟩ := nodup_open hnd
 have hroom := flat_room hw hr
 have hkl := get_len hx
 have hset := row_set hw hr junk 0 (by omega) (.int .i64 9)
 rw [Nat.add_zero] at hset
 have hrun := by_1W (off := k * 7) hi (by rw [List.length_append]; omega)
 rw [hset] at hrun
 refine ⟨_, i, _, cap, _, change_1W (c := cap) lt_rewrite_by_1 hb hkl hrun, hback _ (x.setOp 9) (r.set 0 (.int .i64 9)) Sk (fun j hj => set_ne ?_) (set_eq hi) ?_, Less.refl _, fun j hj => set_ne ?_⟩
 ·rintro rfl
  rcases List.mem_append.1 hj with h | h
  ·exact n1 h
  ·exact n3 h
 ·refine Sm.rep_frame (H := H) ?_ fun j hj => set_ne ?_
  ·obtain ⟨op, s, n, e, b, c, g⟩ := x
   obtain ⟨v1, v2, v3, T1, T2, T3, rfl, rfl, l1, l2, l3⟩ := he
   exact ⟨v1, v2, v3, T1, T2, T3, rfl, rfl, l1, l2, l3⟩
  ·rintro rfl; exact n2 hj
 ·rintro rfl; simp at hj
theorem mark_ok {H : Heap} {l : List Sm} {v : V} {S : List Nat} {k b : Nat} {x : Sm} (hL : LRep 7 H l.length v S (Sm.reps H l)) (hnd : S.Nodup) (hx : l[k]? = some x) (hb : H[b]? = some (some [.fn (.func n_rewrite_by_2) [] []])) :
  EditRes n_rewrite_change_1 [] [.ptr b 0] H (l.set k x.unmark) k v S := by
 obtain ⟨i, cap, junk, rows, S1, Sk, S2, r, rfl, rfl, hi, hr, he, hw, hl, hback⟩ := hL.openS hx
 obtain ⟨n1, n2, n3, n4, n5, n6⟩ := nodup_open hnd
 have hroom := flat_room hw hr
 have hkl := get_len hx
 have hset := row_set hw hr junk 6 (by omega) (.bool false)
 have hrun := by_2W (off := k * 7) hi (by rw [List.length_append]; omega)
 rw [hset] at hrun
 refine ⟨_, i, _, cap, _, change_1W (c := cap) lt_rewrite_by_2 hb hkl hrun, hback _ x.unmark (r.set 6 (.bool false)) Sk (fun j hj => set_ne ?_) (set_eq hi) ?_, Less.refl _, fun j hj => set_ne ?_⟩
 ·rintro rfl
  rcases List.mem_append.1 hj with h | h
  ·exact n1 h
  ·exact n3 h
 ·refine Sm.rep_frame (H := H) ?_ fun j hj => set_ne ?_
  ·obtain ⟨op, s, n, e, b, c, g⟩ := x
   obtain ⟨v1, v2, v3, T1, T2, T3, rfl, rfl, l1, l2, l3⟩ := he
   exact ⟨v1, v2, v3, T1, T2, T3, rfl, rfl, l1, l2, l3⟩
  ·rintro rfl; exact n2 hj
 ·rintro rfl; simp at hj
theorem halfW {H : Heap} {i off j m capE : Nat} {cs ds : List V} {t : List UInt8} (hi : H[i]? = some (some cs)) (h3 : cs[off + 3]? = some (.mg 4 j 0 (m + 1) capE)) (hj : H[j]? = some (some ds)) (ht : ds[m * 4 + 2]? = some (.str t)) (hlen : t.length ≤ 300) (hm : m ≤ 20000) :
  eval tbl noExt (wNo n_rewrite_half) [.ptr i off] H = some (.tup [], H.set j (some (ds.set (m * 4 + 2) (.str (t.take (t.length / 2)))))) := by
 have e1 : IntKind.i64.wrap (m : Int) = m := by rw [w64] <;> omega
 have e2 : IntKind.i64.wrap ((t.length : Int) / 2) = (t.length : Int) / 2 := by rw [w64] <;> omega
 have hml := get_len ht
 have a1 : (m : Int) < (m : Int) + 1 := by omega
 have a2 : ((t.length / 2 : Nat) : Int) ≤ t.length := by omega
 have a3 : m * 4 + 2 + 1 ≤ ds.length := by omega
 have a4 : ((t.length : Int) / 2) ≤ t.length := by omega
 have a5 : (0 : Int) ≤ (t.length : Int) / 2 := by omega
 have a6 : ((t.length : Int) / 2).toNat = t.length / 2 := by omega
 rw [eval_W tw_rewrite_half rfl]
 simp [c_rewrite_half_w, hi, h3, hj, ht, e1, e2, a1, a2, a3, a4, a5, a6]
theorem split_row {α : Type} {rows : List α} {k : Nat} {r : α} (h : rows[k]? = some r) : ∃ A B, rows = A ++ r :: B ∧ A.length = k := by
 have hk := get_len h
 refine ⟨rows.take k, rows.drop (k + 1), ?_, by simp; omega⟩
 rw [List.getElem?_eq_getElem hk] at h
 rw [← Option.some.inj h, List.getElem_cons_drop, List.take_append_drop]
theorem GReps.split {α : Type} {R : Heap → α → List V → List Nat → Prop} {H : Heap} : ∀ {A B : List α} {rows : List (List V)} {S : List Nat}, GReps R H (A ++ B) rows S → ∃ ra rb Sa Sb, rows = ra ++ rb ∧ S = Sa ++ Sb ∧ GReps R H A ra Sa ∧ GReps R H B rb Sb
 | [], B, rows, S, h => ⟨[], rows, [], S, rfl, rfl, ⟨rfl, rfl⟩, h⟩
 | x :: A, B, _, _, ⟨r, rs, S1, S2, rfl, rfl, h3, h4⟩ => by
  obtain ⟨ra, rb, Sa, Sb, rfl, rfl, h5, h6⟩ := GReps.split h4
  exact ⟨r :: ra, rb, S1 ++ Sa, Sb, rfl, by simp, ⟨r, ra, S1, Sa, rfl, rfl, h3, h5⟩, h6⟩
theorem GReps.join {α : Type} {R : Heap → α → List V → List Nat → Prop} {H : Heap} : ∀ {A B : List α} {ra rb : List (List V)} {Sa Sb : List Nat}, GReps R H A ra Sa → GReps R H B rb Sb → GReps R H (A ++ B) (ra ++ rb) (Sa ++ Sb)
 | [], B, _, _, _, _, ⟨rfl, rfl⟩, h => h
 | x :: A, B, _, rb, _, Sb, ⟨r, rs, S1, S2, rfl, rfl, h3, h4⟩, h => ⟨r, rs ++ rb, S1, S2 ++ Sb, rfl, by simp, h3, GReps.join h4 h⟩
theorem Sm.rep_strip {H : Heap} {e : Sm} {cells : List V} {S : List Nat} (h : e.rep H cells S) : cells.map V.strip = cells ∧ cells.all V.one = true := by
 obtain ⟨op, s, m, x, b, c, g⟩ := e
 obtain ⟨v1, v2, v3, S1, S2, S3, rfl, _, hL1, hL2, hL3⟩ := h
 rcases hL1 with ⟨_, rfl, _⟩ | ⟨_, _, _, _, _, rfl, _⟩ <;> rcases hL2 with ⟨_, rfl, _⟩ | ⟨_, _, _, _, _, rfl, _⟩ <;> rcases hL3 with ⟨_, rfl, _⟩ | ⟨_, _, _, _, _, rfl, _⟩ <;> exact ⟨rfl, rfl⟩
theorem Sm.reps_strip {H : Heap} : ∀ {l : List Sm} {rows : List (List V)} {S : List Nat}, GReps SmR H l rows S → rows.flatten.map V.strip = rows.flatten ∧ rows.flatten.all V.one = true
 | [], _, _, ⟨rfl, _⟩ => ⟨rfl, rfl⟩
 | e :: l, _, _, ⟨r, rs, S1, S2, rfl, _, h3, h4⟩ => by
  obtain ⟨h5, h6⟩ := Sm.reps_strip h4
  obtain ⟨h7, h8⟩ := Sm.rep_strip h3
  refine ⟨by rw [List.flatten_cons, List.map_append, h5, h7], by rw [List.flatten_cons, List.all_append, h6, h8]; rfl⟩
theorem by_3W {H : Heap} {i n c k : Nat} {cs r0 r1 : List V} (hi : H[i]? = some (some cs)) (hk : k + 1 < n) (hr : n * 7 ≤ cs.length) (hn : n ≤ 20000) (h0 : (cs.drop (k * 7)).take 7 = r0) (h1 : (cs.drop ((k + 1) * 7)).take 7 = r1) (s0 : r0.map V.strip = r0) (s1 : r1.map V.strip = r1)
  (o0 : r0.all V.one = true) (o1 : r1.all V.one = true) (l0 : r0.length = 7) (l1 : r1.length = 7) :
  eval tbl noExt (wNo n_rewrite_by_3) [.mg 7 i 0 n c, .int .i64 k] H = some (.mg 7 i 0 n c, H.set i (some (setMany (setMany cs (k * 7) r1) ((k + 1) * 7) r0))) := by
 have e1 : IntKind.i64.wrap ((k : Int) + 1) = ((k + 1 : Nat) : Int) := by rw [w64] <;> omega
 have a1 : (k : Int) < n := by omega
 have a2 : ((k + 1 : Nat) : Int) < n := by omega
 have a2' : (k : Int) + 1 < n := by omega
 have a3 : (k + 1) * 7 + 7 ≤ cs.length := by omega
 have a4 : k * 7 + 7 ≤ cs.length := by omega
 have a5 : (0 : Int) ≤ (k : Int) + 1 := by omega
 have a6 : ((k : Int) + 1).toNat = k + 1 := by omega
 have hs : ∀ x, (H.set i x)[i]? = some x := fun x => List.getElem?_set_self (get_len hi)
 have h0' : (List.take 7 (List.drop (k * 7) (List.map V.strip cs))) = r0 := by rw [← List.map_drop, ← List.map_take, h0, s0]
 have h1' : (List.take 7 (List.drop ((k + 1) * 7) (List.map V.strip cs))) = r1 := by rw [← List.map_drop, ← List.map_take, h1, s1]
 rw [eval_W tw_rewrite_by_3 rfl]
 simp [-List.all_eq_true, -setMany, c_rewrite_by_3_w, hi, e1, a1, a2, a2', a3, a4, a5, a6, h0', h1', s0, s1, o0, o1, l0, l1, hs, setMany_length]
def zeroSt : List V := [.int .i64 0, .str [], .int .i64 0, .sl 4 [], .sl 7 [], .sl 7 [], .bool false]
theorem DeleteW {H : Heap} {i n c k : Nat} {cs : List V} {rb : List (List V)} (hi : H[i]? = some (some cs)) (hk : k < n) (hn : n ≤ c) (hc : c * 7 ≤ cs.length) (hcl : n ≤ 20000) (hch : chunk 7 (cs.map V.strip) ((k + 1) * 7) (n - (k + 1)) = rb) (hone : rb.flatten.all V.one = true) :
  eval tbl noExt (wNo n_slices_Delete_api_Stmt_api_Stmt) [.mg 7 i 0 n c, .int .i64 k, .int .i64 ((k + 1 : Nat) : Int)] H = some (.mg 7 i 0 (n - 1) c, H.set i (some (setMany (setMany cs (k * 7) rb.flatten) ((n - 1) * 7) zeroSt))) := by
 have hbl : rb.length = n - (k + 1) := by rw [← hch, chunk_length]
 have a1 : (k : Int) ≤ n := by omega
 have a2 : (k : Int) + 1 ≤ n := by omega
 have a3 : (n : Int) ≤ c := by omega
 have a4 : ¬ (k : Int) = (k : Int) + 1 := by omega
 have a5 : (k : Int) ≤ c := by omega
 have a6 : (0 : Int) ≤ (k : Int) + 1 := by omega
 have a7 : ((k : Int) + 1).toNat = k + 1 := by omega
 have a8 : (k + 1) * 7 + (n - (k + 1)) * 7 ≤ cs.length := by omega
 have a9 : k + (n - (k + 1)) ≤ c := by omega
 have a10 : k + (n - (k + 1)) = n - 1 := by omega
 have a11 : ((n - 1 : Nat) : Int) ≤ n := by omega
 have a12 : n - (n - 1) = 1 := by omega
 have a13 : (n - 1) * 7 + 7 ≤ cs.length := by omega
 have a14 : (k : Int) ≤ (k : Int) + 1 := by omega
 have a15 : k ≤ c := by omega
 have a16 : n - 1 ≤ c := by omega
 have hs : ∀ x, (H.set i x)[i]? = some x := fun x => List.getElem?_set_self (get_len hi)
 rw [eval_W tw_slices_Delete_api_Stmt_api_Stmt rfl]
 simp [-List.all_eq_true, -setMany, -chunk, c_slices_Delete_api_Stmt_api_Stmt_w, hi, a1, a2, a3, a4, a5, a6, a7, a8, a9, a10, a11, a12, a13, a14, a15, a16, hch, hbl, hone, hc, hs, setMany_length, appM, zeroSt]
theorem SmG.frame {H K : Heap} {l : List Sm} {rows : List (List V)} {S : List Nat} (h : GReps SmR H l rows S) (hS : ∀ i ∈ S, K[i]? = H[i]?) : GReps SmR K l rows S := GReps.frame SmR.frame h hS
theorem split_two {α : Type} {l : List α} {k : Nat} {x y : α} (hx : l[k]? = some x) (hy : l[k + 1]? = some y) : ∃ A B, l = A ++ x :: y :: B ∧ A.length = k := by
 obtain ⟨A, B, rfl, hA⟩ := split_row hx
 rw [List.getElem?_append_right (by omega), show k + 1 - A.length = 1 by omega] at hy
 cases B with
 | nil => simp at hy
 | cons b B =>
  simp only [List.getElem?_cons_succ, List.getElem?_cons_zero, Option.some.injEq] at hy
  subst hy
  exact ⟨A, B, rfl, hA⟩
theorem swap_ok {H : Heap} {l : List Sm} {v : V} {S : List Nat} {k : Nat} {x y : Sm} (hL : LRep 7 H l.length v S (Sm.reps H l)) (hnd : S.Nodup) (hx : l[k]? = some x) (hy : l[k + 1]? = some y) (hl : l.length ≤ 20000) :
  EditRes n_rewrite_by_3 [] [] H (swapAt l k) k v S := by
 unfold swapAt
 rw [hx, hy]
 obtain ⟨A, B, rfl, hA⟩ := split_two hx hy
 have hse : ((A ++ x :: y :: B).set k y).set (k + 1) x = A ++ y :: x :: B := by
  rw [List.set_append_right _ _ (by omega), List.set_append_right _ _ (by omega), hA, Nat.sub_self, show k + 1 - k = 1 by omega]; rfl
 simp only [hse]
 rcases hL with ⟨h0, _, _⟩ | ⟨i, cap, junk, rows, S', rfl, rfl, h1, h2, hcap⟩
 ·simp at h0
 ·obtain ⟨ra, rb, Sa, Sb, rfl, rfl, gA, r0, rs, T0, Tr, rfl, rfl, g0, r1, rs', T1, T2, rfl, rfl, g1, g2⟩ := GReps.split (Sm.reps_G.2 h2)
  obtain ⟨wA, wA'⟩ := gA.width SmR.len
  have fA : ra.flatten.length = k * 7 := by rw [gA.flat SmR.len, hA]
  have fB := g2.flat SmR.len
  have l0 := SmR.len _ _ _ _ g0
  have l1 := SmR.len _ _ _ _ g1
  obtain ⟨s0, o0⟩ := Sm.rep_strip g0
  obtain ⟨s1, o1⟩ := Sm.rep_strip g1
  obtain ⟨nA, nB⟩ := List.nodup_cons.1 hnd
  have hcs : (ra ++ r0 :: r1 :: rs').flatten ++ junk = ra.flatten ++ (r0 ++ (r1 ++ (rs'.flatten ++ junk))) := by simp
  rw [hcs] at h1 hcap
  have d0 : ((ra.flatten ++ (r0 ++ (r1 ++ (rs'.flatten ++ junk)))).drop (k * 7)).take 7 = r0 := by
   rw [← fA, List.drop_left, ← l0, List.take_left]
  have d1 : ((ra.flatten ++ (r0 ++ (r1 ++ (rs'.flatten ++ junk)))).drop ((k + 1) * 7)).take 7 = r1 := by
   have : (k + 1) * 7 = (ra.flatten ++ r0).length := by rw [List.length_append, fA, l0]; omega
   rw [← List.append_assoc, this, List.drop_left, ← l1, List.take_left]
  have hlen : (A ++ x :: y :: B).length * 7 ≤ (ra.flatten ++ (r0 ++ (r1 ++ (rs'.flatten ++ junk)))).length := by
   simp only [List.length_append, List.length_cons, fA, l0, l1, fB, hA]; omega
  have hrun := by_3W (c := cap) (k := k) h1 (by simp only [List.length_append, List.length_cons, hA]; omega) hlen hl d0 d1 s0 s1 o0 o1 l0 l1
  have p1 : setMany (ra.flatten ++ (r0 ++ (r1 ++ (rs'.flatten ++ junk)))) (k * 7) r1 = ra.flatten ++ (r1 ++ (r1 ++ (rs'.flatten ++ junk))) := by
   rw [← fA]; exact setMany_mid _ _ _ _ (by omega)
  have p2 : setMany (ra.flatten ++ (r1 ++ (r1 ++ (rs'.flatten ++ junk)))) ((k + 1) * 7) r0 = (ra ++ r1 :: r0 :: rs').flatten ++ junk := by
   have : (k + 1) * 7 = (ra.flatten ++ r1).length := by rw [List.length_append, fA, l1]; omega
   rw [← List.append_assoc, this, setMany_mid _ _ _ _ (by omega)]; simp
  rw [p1, p2] at hrun
  have hfr : ∀ j, j ≠ i → (H.set i (some ((ra ++ r1 :: r0 :: rs').flatten ++ junk)))[j]? = H[j]? := fun j hj => set_ne hj
  simp only [List.mem_append, not_or] at nA
  refine ⟨_, i, _, cap, i :: (Sa ++ (T1 ++ (T0 ++ T2))), by rw [List.nil_append, List.append_nil]; exact hrun, .inr ⟨i, cap, junk, ra ++ r1 :: r0 :: rs', Sa ++ (T1 ++ (T0 ++ T2)), by simp, rfl, set_eq h1, Sm.reps_G.1 ?_, ?_⟩, ?_, fun j hj => hfr j ?_⟩
  ·refine GReps.join (SmG.frame gA fun j hj => hfr j ?_) ⟨r1, _, T1, _, rfl, rfl, SmR.frame _ _ _ _ _ g1 fun j hj => hfr j ?_, r0, rs', T0, T2, rfl, rfl, SmR.frame _ _ _ _ _ g0 fun j hj => hfr j ?_, SmG.frame g2 fun j hj => hfr j ?_⟩
   ·rintro rfl; exact nA.1 hj
   ·rintro rfl; exact nA.2.2.1 hj
   ·rintro rfl; exact nA.2.1 hj
   ·rintro rfl; exact nA.2.2.2 hj
  ·simp only [List.length_append, List.length_cons, List.flatten_append, List.flatten_cons] at hcap ⊢
   omega
  ·refine Less.cons (Less.of_perm (List.Perm.append_left Sa ?_)) i
   rw [← List.append_assoc, ← List.append_assoc]
   exact List.Perm.append_right T2 List.perm_append_comm
  ·rintro rfl; simp at hj
theorem by_4W {H K : Heap} {i n c k i' n' c' : Nat} (h : eval tbl noExt (wNo n_slices_Delete_api_Stmt_api_Stmt) [.mg 7 i 0 n c, .int .i64 k, .int .i64 ((k + 1 : Nat) : Int)] H = some (.mg 7 i' 0 n' c', K)) (hk : k ≤ 20000) :
  eval tbl noExt (wNo n_rewrite_by_4) [.mg 7 i 0 n c, .int .i64 k] H = some (.mg 7 i' 0 n' c', K) := by
 have hw : IntKind.i64.wrap ((k : Int) + 1) = (k : Int) + 1 := by rw [w64 (by omega) (by omega)]
 have e : ((k + 1 : Nat) : Int) = (k : Int) + 1 := by omega
 rw [e] at h
 rw [eval_W tw_rewrite_by_4 rfl]
 simp [c_rewrite_by_4_w, hw, h]
theorem eraseIdx_mid {α : Type} {A B : List α} {x : α} {k : Nat} (h : A.length = k) : (A ++ x :: B).eraseIdx k = A ++ B := by
 rw [List.eraseIdx_append_of_length_le (by omega), h, Nat.sub_self]; rfl
theorem drop_ok {H : Heap} {l : List Sm} {v : V} {S : List Nat} {k : Nat} {x : Sm} (hL : LRep 7 H l.length v S (Sm.reps H l)) (hnd : S.Nodup) (hx : l[k]? = some x) (hl : l.length ≤ 20000) :
  EditRes n_rewrite_by_4 [] [] H (l.eraseIdx k) k v S := by
 obtain ⟨A, B, rfl, hA⟩ := split_row hx
 rw [eraseIdx_mid hA]
 rcases hL with ⟨h0, _, _⟩ | ⟨i, cap, junk, rows, S', rfl, rfl, h1, h2, hcap⟩
 ·simp at h0
 ·obtain ⟨ra, rb, Sa, Sb, rfl, rfl, gA, r0, rs, T0, Tr, rfl, rfl, g0, gB⟩ := GReps.split (Sm.reps_G.2 h2)
  have fA : ra.flatten.length = k * 7 := by rw [gA.flat SmR.len, hA]
  have fB := gB.flat SmR.len
  obtain ⟨wB, wB'⟩ := gB.width SmR.len
  obtain ⟨wA, wA'⟩ := gA.width SmR.len
  have l0 := SmR.len _ _ _ _ g0
  obtain ⟨sB, oB⟩ := Sm.reps_strip gB
  obtain ⟨nA, nB⟩ := List.nodup_cons.1 hnd
  have hcs : (ra ++ r0 :: rs).flatten ++ junk = ra.flatten ++ (r0 ++ (rs.flatten ++ junk)) := by simp
  rw [hcs] at h1 hcap
  have hL2 : (A ++ x :: B).length = k + 1 + B.length := by simp only [List.length_append, List.length_cons, hA]; omega
  have hcap' : (A ++ x :: B).length ≤ cap ∧ cap * 7 ≤ (ra.flatten ++ (r0 ++ (rs.flatten ++ junk))).length := by
   rcases hcap with rfl | h
   ·refine ⟨Nat.le_refl _, ?_⟩
    simp only [List.length_append, fA, l0, fB, hA, List.length_cons]; omega
   ·exact h
  have hch : chunk 7 ((ra.flatten ++ (r0 ++ (rs.flatten ++ junk))).map V.strip) ((k + 1) * 7) ((A ++ x :: B).length - (k + 1)) = rs := by
   have e1 : (ra.flatten ++ (r0 ++ (rs.flatten ++ junk))).map V.strip = (ra.flatten.map V.strip ++ r0.map V.strip) ++ (rs.flatten ++ junk.map V.strip) := by
    simp only [List.map_append, sB, List.append_assoc]
   have e2 : (k + 1) * 7 = (ra.flatten.map V.strip ++ r0.map V.strip).length := by rw [List.length_append, List.length_map, List.length_map, fA, l0]; omega
   have e3 : (A ++ x :: B).length - (k + 1) = rs.length := by rw [hL2, wB]; omega
   rw [e1, e2, e3]
   apply List.ext_getElem?
   intro q
   by_cases hq : q < rs.length
   ·rw [chunk_get _ _ _ _ _ hq, ← List.drop_drop, List.drop_left, List.getElem?_eq_getElem hq, row_take wB' (List.getElem?_eq_getElem hq)]
   ·rw [List.getElem?_eq_none (by rw [chunk_length]; omega), List.getElem?_eq_none (by omega)]
  have hrun := DeleteW (k := k) h1 (by rw [hL2]; omega) hcap'.1 hcap'.2 hl hch oB
  obtain ⟨Z, hZ, hsplit⟩ : ∃ Z, Z.length = 7 ∧ setMany (ra.flatten ++ (r0 ++ (rs.flatten ++ junk))) (k * 7) rs.flatten = (ra.flatten ++ rs.flatten) ++ (Z ++ junk) := by
   refine ⟨(r0 ++ rs.flatten).drop rs.flatten.length, by rw [List.length_drop, List.length_append]; omega, ?_⟩
   have e : ra.flatten ++ (r0 ++ (rs.flatten ++ junk)) = ra.flatten ++ ((r0 ++ rs.flatten).take rs.flatten.length ++ ((r0 ++ rs.flatten).drop rs.flatten.length ++ junk)) := by
    rw [← List.append_assoc ((r0 ++ rs.flatten).take rs.flatten.length), List.take_append_drop, List.append_assoc]
   rw [e, ← fA, setMany_mid _ _ _ _ (by rw [List.length_take, List.length_append]; omega), List.append_assoc]
  have hfin : setMany ((ra.flatten ++ rs.flatten) ++ (Z ++ junk)) (((A ++ x :: B).length - 1) * 7) zeroSt = (ra ++ rs).flatten ++ (zeroSt ++ junk) := by
   have e : ((A ++ x :: B).length - 1) * 7 = (ra.flatten ++ rs.flatten).length := by rw [hL2, List.length_append, fA, fB]; omega
   rw [e, setMany_mid _ _ _ _ (by rw [hZ]; rfl), List.flatten_append]
  rw [hsplit, hfin] at hrun
  have hfr : ∀ j, j ≠ i → (H.set i (some ((ra ++ rs).flatten ++ (zeroSt ++ junk))))[j]? = H[j]? := fun j hj => set_ne hj
  have hlen2 : (A ++ x :: B).length - 1 = (A ++ B).length := by simp
  simp only [List.mem_append, not_or] at nA
  refine ⟨_, i, _, cap, i :: (Sa ++ Tr), ?_, .inr ⟨i, cap, zeroSt ++ junk, ra ++ rs, Sa ++ Tr, by rw [← hlen2], rfl, set_eq h1, Sm.reps_G.1 ?_, .inr ⟨by have := hcap'.1; rw [← hlen2]; omega, ?_⟩⟩, ?_, fun j hj => hfr j ?_⟩
  ·rw [List.nil_append, List.append_nil]; exact by_4W hrun (by omega)
  ·refine GReps.join (SmG.frame gA fun j hj => hfr j ?_) (SmG.frame gB fun j hj => hfr j ?_)
   ·rintro rfl; exact nA.1 hj
   ·rintro rfl; exact nA.2.2 hj
  ·have h7 := hcap'.2
   simp only [List.length_append, List.flatten_append, l0] at h7 ⊢
   simp only [zeroSt, List.length_cons, List.length_nil]
   omega
  ·refine Less.cons ⟨T0, ?_⟩ i
   rw [List.append_assoc]
   exact List.Perm.append_left Sa List.perm_append_comm
  ·rintro rfl; simp at hj
theorem set_id {α : Type} {l : List α} {k : Nat} {x : α} (h : l[k]? = some x) : l.set k x = l := by
 apply List.ext_getElem?
 intro j
 by_cases hj : j = k
 ·subst hj; rw [List.getElem?_set_self (get_len h), h]
 ·rw [List.getElem?_set_ne (fun e => hj e.symm)]
theorem tear_ok {H : Heap} {l : List Sm} {v : V} {S : List Nat} {k b : Nat} {x : Sm} {eL : Ex} (hL : LRep 7 H l.length v S (Sm.reps H l)) (hnd : S.Nodup) (hx : l[k]? = some x) (hb : H[b]? = some (some [.fn (.func n_rewrite_half) [] []]))
  (hlast : x.exprs.getLast? = some eL) (hshort : eL.text.length ≤ 300) (hel : x.exprs.length ≤ 20000) : EditRes n_rewrite_change_1 [] [.ptr b 0] H (l.set k x.tear) k v S := by
 obtain ⟨i, cap, junk, rows, S1, Sk, S2, r, rfl, rfl, hi, hr, he, hw, hl, hback⟩ := hL.openS hx
 obtain ⟨n1, n2, n3, n4, n5, n6⟩ := nodup_open hnd
 have hroom := flat_room hw hr
 have hkl := get_len hx
 obtain ⟨op, s, n, e, bb, c, g⟩ := x
 obtain ⟨v1, v2, v3, T1, T2, T3, rfl, rfl, l1, l2, l3⟩ := he
 simp only [Sm.exprs] at hlast hel
 obtain ⟨m, hm, hme⟩ : ∃ m, e.length = m + 1 ∧ e[m]? = some eL := by
  rw [List.getLast?_eq_getElem?] at hlast
  have := get_len hlast
  exact ⟨e.length - 1, by omega, hlast⟩
 have hhalf : halfLast e = e.set m eL.half := by unfold halfLast; rw [hlast]; simp [hm]
 obtain ⟨j, capE, junkE, rowsE, U1, Um, U2, rE, rfl, rfl, hj, hrE, heE, hwE, hlE, hbackE⟩ := l1.openE hme
 obtain ⟨eop, en, et, ex⟩ := eL
 obtain ⟨vE, rfl, lE⟩ := heE
 simp only [List.nodup_append, List.nodup_cons] at n4
 obtain ⟨⟨d1, d1'⟩, ⟨d2, d3, d23⟩, d4⟩ := n4
 have hjk : j ∈ (j :: (U1 ++ (Um ++ U2))) ++ (T2 ++ T3) := by simp
 have hji : j ≠ i := fun e => n2 (e ▸ hjk)
 have c3 : (rows.flatten ++ junk)[k * 7 + 3]? = some (.mg 4 j 0 (m + 1) capE) := by rw [row_at hw hr junk 3 (by omega), ← hm]; rfl
 have c2 : (rowsE.flatten ++ junkE)[m * 4 + 2]? = some (.str et) := by rw [row_at hwE hrE junkE 2 (by omega)]; rfl
 have hset := row_set hwE hrE junkE 2 (by omega) (.str (et.take (et.length / 2)))
 have hrun := halfW hi c3 hj c2 hshort (by omega)
 rw [hset] at hrun
 have hfr : ∀ q, q ≠ j → (H.set j (some ((rowsE.set m ([.int .i64 eop, .int .i64 en, .str et, vE].set 2 (.str (et.take (et.length / 2))))).flatten ++ junkE)))[q]? = H[q]? := fun q hq => set_ne hq
 have m1 : ∀ q ∈ U1 ++ (Um ++ U2), q ≠ j := fun q hq e => d1 (e ▸ hq)
 have hE := hbackE _ (Ex.half (.mk eop en et ex)) ([.int .i64 eop, .int .i64 en, .str et, vE].set 2 (.str (et.take (et.length / 2)))) Um (fun q hq => hfr q (m1 q (by simp only [List.mem_append] at hq ⊢; rcases hq with h | h; exact .inl h; exact .inr (.inr h)))) (set_eq hj)
  ⟨vE, rfl, lE.frame (fun q hq => hfr q (m1 q (by simp [hq]))) fun rows S' hs h => Ex.reps_frame h fun q hq => hfr q (m1 q (by simp [hs q hq]))⟩
 have hS : ∀ q ∈ T2 ++ T3, q ≠ j := fun q hq e => d4 j (by simp) q hq e.symm
 refine ⟨_, i, _, cap, _, change_1W (c := cap) lt_rewrite_half hb hkl hrun, hback _ (Sm.tear (.mk op s n e bb c g)) _ _ (fun q hq => hfr q ?_) ?_ ⟨.mg 4 j 0 e.length capE, v2, v3, _, T2, T3, rfl, rfl, ?_, ?_, ?_⟩, Less.refl _, fun q hq => hfr q ?_⟩
 ·rintro rfl
  rcases List.mem_append.1 hq with h | h
  ·exact n5 _ hjk h
  ·exact n6 _ hjk h
 ·rw [hfr i (fun e => hji e.symm), hi, set_id hr]
 ·rw [hhalf]; exact hE
 ·exact l2.frame (fun q hq => hfr q (hS q (List.mem_append_left _ hq))) fun rows S' hs h => Sm.reps_frame h fun q hq => hfr q (hS q (List.mem_append_left _ (hs q hq)))
 ·exact l3.frame (fun q hq => hfr q (hS q (List.mem_append_right _ hq))) fun rows S' hs h => Sm.reps_frame h fun q hq => hfr q (hS q (List.mem_append_right _ (hs q hq)))
 ·rintro rfl
  exact hq (List.mem_cons_of_mem _ (List.mem_append_right _ (List.mem_append_left _ hjk)))
def FV (H : Heap) (kind : Int) (fv : V) : Prop :=
 (kind = 2 ∧ ∃ b, H[b]? = some (some [.fn (.func n_rewrite_by_1) [] []]) ∧ fv = .fn (.func n_rewrite_change_1) [] [.ptr b 0]) ∨
 (kind = 6 ∧ ∃ b, H[b]? = some (some [.fn (.func n_rewrite_by_2) [] []]) ∧ fv = .fn (.func n_rewrite_change_1) [] [.ptr b 0]) ∨
 (kind = 7 ∧ ∃ b, H[b]? = some (some [.fn (.func n_rewrite_half) [] []]) ∧ fv = .fn (.func n_rewrite_change_1) [] [.ptr b 0]) ∨
 (kind = 5 ∧ fv = .fn (.func n_rewrite_by_3) [] []) ∨ (kind ≠ 2 ∧ kind ≠ 6 ∧ kind ≠ 7 ∧ kind ≠ 5 ∧ fv = .fn (.func n_rewrite_by_4) [] [])
theorem changeW (f : Nat) (H : Heap) : eval tbl noExt (wNo n_rewrite_change) [.fn (.func f) [] []] H = some (.fn (.func n_rewrite_change_1) [] [.ptr H.length 0], H ++ [some [.fn (.func f) [] []]]) := by
 rw [eval_W tw_rewrite_change rfl]
 simp [c_rewrite_change_w]
theorem by_ok (kind : Int) (H : Heap) : ∃ fv L, eval tbl noExt (wNo n_rewrite_by) [.int .i64 kind] H = some (fv, H ++ L) ∧ ∀ K, K.length = H.length → FV (K ++ L) kind fv := by
 have c1 := changeW n_rewrite_by_1 H
 have c2 := changeW n_rewrite_by_2 H
 have c3 := changeW n_rewrite_half H
 rw [eval_W tw_rewrite_by rfl]
 by_cases k2 : kind = 2
 ·refine ⟨.fn (.func n_rewrite_change_1) [] [.ptr H.length 0], [some [.fn (.func n_rewrite_by_1) [] []]], by simp [c_rewrite_by_w, k2, c1], fun K hK => .inl ⟨k2, H.length, ?_, rfl⟩⟩
  rw [← hK, List.getElem?_append_right (Nat.le_refl _)]; simp
 by_cases k6 : kind = 6
 ·refine ⟨.fn (.func n_rewrite_change_1) [] [.ptr H.length 0], [some [.fn (.func n_rewrite_by_2) [] []]], by simp [c_rewrite_by_w, k6, c2], fun K hK => .inr (.inl ⟨k6, H.length, ?_, rfl⟩)⟩
  rw [← hK, List.getElem?_append_right (Nat.le_refl _)]; simp
 by_cases k7 : kind = 7
 ·refine ⟨.fn (.func n_rewrite_change_1) [] [.ptr H.length 0], [some [.fn (.func n_rewrite_half) [] []]], by simp [c_rewrite_by_w, k7, c3], fun K hK => .inr (.inr (.inl ⟨k7, H.length, ?_, rfl⟩))⟩
  rw [← hK, List.getElem?_append_right (Nat.le_refl _)]; simp
 by_cases k5 : kind = 5
 ·exact ⟨.fn (.func n_rewrite_by_3) [] [], [], by simp [c_rewrite_by_w, k5], fun K hK => .inr (.inr (.inr (.inl ⟨k5, rfl⟩)))⟩
 ·exact ⟨.fn (.func n_rewrite_by_4) [] [], [], by simp [c_rewrite_by_w, k2, k6, k7, k5], fun K hK => .inr (.inr (.inr (.inr ⟨k2, k6, k7, k5, rfl⟩)))⟩
def Short (X : List Sm) : Prop := ∀ x e, X.head? = some x → x.exprs.getLast? = some e → e.text.length ≤ 300
theorem drop_cons {α : Type} {l : List α} {k : Nat} {x : α} {r : List α} (h : l.drop k = x :: r) : l[k]? = some x ∧ l[k + 1]? = r.head? := by
 have h0 : (l.drop k)[0]? = l[k]? := by rw [List.getElem?_drop]; rfl
 have h1 : (l.drop k)[1]? = l[k + 1]? := by rw [List.getElem?_drop]
 rw [← h0, ← h1, h]
 cases r <;> simp
theorem edit_ok {H : Heap} {kind : Int} {fv : V} {l : List Sm} {k : Nat} {v : V} {S : List Nat} (hF : FV H kind fv) (hL : LRep 7 H l.length v S (Sm.reps H l)) (hnd : S.Nodup) (hfit : fitsOf kind (l.drop k) = true) (hshort : Short (l.drop k)) (hsz : Sm.sizes l ≤ 20000) :
  ∃ f first cap, fnParts0 fv = some (f, first, cap) ∧ EditRes f first cap H (edit kind l k) k v S := by
 cases hX : l.drop k with
 | nil => rw [hX] at hfit; simp [fitsOf] at hfit
 | cons x r =>
  obtain ⟨hx, hy⟩ := drop_cons hX
  rw [hX] at hfit hshort
  have hll := Sm.sizes_ge l
  have hxs := Sm.sizes_mem (List.mem_of_getElem? hx)
  rw [fitsOf_cons] at hfit
  unfold edit
  rw [hx]
  rcases hF with ⟨rfl, b, hb, rfl⟩ | ⟨rfl, b, hb, rfl⟩ | ⟨rfl, b, hb, rfl⟩ | ⟨rfl, rfl⟩ | ⟨k2, k6, k7, k5, rfl⟩
  ·exact ⟨_, _, _, by simp [fnParts0], weak_ok hL hnd hx hb⟩
  ·exact ⟨_, _, _, by simp [fnParts0], mark_ok hL hnd hx hb⟩
  ·simp only [show ¬ (7 : Int) = 1 by decide, show ¬ (7 : Int) = 2 by decide, show ¬ (7 : Int) = 3 by decide, show ¬ (7 : Int) = 4 by decide, show ¬ (7 : Int) = 5 by decide, show ¬ (7 : Int) = 6 by decide, if_false, if_true, Sm.torn, Bool.and_eq_true] at hfit
   obtain ⟨_, hl⟩ := hfit
   unfold lastText at hl
   cases he : x.exprs.getLast? with
   | none => rw [he] at hl; simp at hl
   | some e =>
    refine ⟨_, _, _, by simp [fnParts0], tear_ok hL hnd hx hb he (hshort x e rfl he) ?_⟩
    obtain ⟨op, s, m, xs, bb, cc, g⟩ := x
    have := Ex.sizes_ge xs
    simp only [Sm.size] at hxs
    simp only [Sm.exprs]; omega
  ·simp only [show ¬ (5 : Int) = 1 by decide, show ¬ (5 : Int) = 2 by decide, show ¬ (5 : Int) = 3 by decide, show ¬ (5 : Int) = 4 by decide, if_false, if_true, Bool.and_eq_true] at hfit
   obtain ⟨_, hn⟩ := hfit
   cases r with
   | nil => simp [nextWrites] at hn
   | cons y r => exact ⟨_, _, _, by simp [fnParts0], swap_ok hL hnd hx hy (by omega)⟩
  ·simp only [k2, k6, k7, k5, if_false]
   exact ⟨_, _, _, by simp [fnParts0], drop_ok hL hnd hx (by omega)⟩
theorem FV.fn {H : Heap} {kind : Int} {fv : V} (h : FV H kind fv) : ∃ f first cap, fv = .fn (.func f) first cap := by
 rcases h with ⟨_, _, _, rfl⟩ | ⟨_, _, _, rfl⟩ | ⟨_, _, _, rfl⟩ | ⟨_, rfl⟩ | ⟨_, _, _, _, rfl⟩ <;> exact ⟨_, _, _, rfl⟩
theorem sub_size (x : Sm) (n : Int) : Sm.sizes (x.sub n) ≤ x.size := by
 obtain ⟨op, s, m, xs, b, c, g⟩ := x
 unfold Sm.sub
 split <;> simp only [Sm.size, Sm.els, Sm.body] <;> omega
theorem editAt_some {kind : Int} {b : List Sm} {k : Nat} {x : Sm} (h : b[k]? = some x) (n : Int) (ws : List Int) : editAt kind b k (n :: ws) = b.set k (x.withSub n (editAt kind (x.sub n) (n / 2).toNat ws)) := by
 rw [editAt, h]
def AlongRes (H : Heap) (bi off : Nat) (cs : List V) (S : List Nat) (l' : List Sm) (args : List V) : Prop :=
 ∃ K i n c S', eval tbl noExt (wNo n_rewrite_along) args H = some (.tup [], K) ∧ K[bi]? = some (some (cs.set off (.mg 7 i 0 n c))) ∧ LRep 7 K l'.length (.mg 7 i 0 n c) S' (Sm.reps K l') ∧ Less S' S ∧ ∀ j, j ∉ S → j ≠ bi → K[j]? = H[j]?
theorem along_end {H : Heap} {bi off k q o c : Nat} {cs : List V} {l : List Sm} {v fv : V} {S : List Nat} {kind : Int} (hbi : H[bi]? = some (some cs)) (hoff : cs[off]? = some v) (hL : LRep 7 H l.length v S (Sm.reps H l)) (hnd : S.Nodup) (hb : bi ∉ S)
  (hF : FV H kind fv) (hfit : fitsOf kind (l.drop k) = true) (hshort : Short (l.drop k)) (hsz : Sm.sizes l ≤ 20000) : AlongRes H bi off cs S (edit kind l k) [.ptr bi off, .int .i64 k, .ms q o 0 c, fv] := by
 obtain ⟨f, first, cap, hfp, K, i, n, cc, S', hrun, hL', hless, hfr⟩ := edit_ok hF hL hnd hfit hshort hsz
 have hvs : v = .sl 7 [] ∨ ∃ i cap, v = .mg 7 i 0 l.length cap := by
  rcases hL with ⟨_, rfl, _⟩ | ⟨i, cap, _, _, _, rfl, _⟩
  ·exact .inl rfl
  ·exact .inr ⟨i, cap, rfl⟩
 have hKb : K[bi]? = some (some cs) := by rw [hfr bi hb, hbi]
 have hol := get_len hoff
 have ho : off + 1 ≤ cs.length := by omega
 have hb' : bi ∉ S' := fun h => hb (hless.mem h)
 have hcf : ∀ j, j ≠ bi → (K.set bi (some (cs.set off (.mg 7 i 0 n cc))))[j]? = K[j]? := fun j hj => set_ne hj
 obtain ⟨rfl, hfy⟩ := fnParts0_inv hfp
 refine ⟨K.set bi (some (cs.set off (.mg 7 i 0 n cc))), i, n, cc, S', ?_, set_eq hKb, hL'.frame (fun j hj => hcf j ?_) fun rows S'' hs h => Sm.reps_frame h fun j hj => hcf j ?_, hless, fun j hj hjb => by rw [hcf j hjb, hfr j hj]⟩
 ·rw [eval_W tw_rewrite_along rfl]
  rcases hvs with rfl | ⟨i0, cap0, rfl⟩
  ·simp only [List.append_assoc, List.cons_append, List.nil_append] at hrun
   simp [c_rewrite_along_w, hbi, hoff, hfy, hrun, hKb, ho]
  ·simp only [List.append_assoc, List.cons_append, List.nil_append] at hrun
   simp [c_rewrite_along_w, hbi, hoff, hfy, hrun, hKb, ho]
 ·rintro rfl; exact hb' hj
 ·rintro rfl; exact hb' (hs _ hj)
theorem along_ok (kind : Int) (fv : V) : ∀ (ws : List Int) (l : List Sm) (k : Nat) (H : Heap) (bi off q o c : Nat) (cs sc : List V) (v : V) (S : List Nat), H[bi]? = some (some cs) → cs[off]? = some v → LRep 7 H l.length v S (Sm.reps H l) → S.Nodup → bi ∉ S →
  H[q]? = some (some sc) → (∀ i n, ws[i]? = some n → sc[o + i]? = some (.int .i64 n)) → (∀ n ∈ ws, 0 ≤ n ∧ n < 9223372036854775808) → ws.length ≤ c →
  FV H kind fv → fitsOf kind (leadTo l k ws) = true → Short (leadTo l k ws) → Sm.sizes l ≤ 20000 → AlongRes H bi off cs S (editAt kind l k ws) [.ptr bi off, .int .i64 k, .ms q o ws.length c, fv]
 | [], l, k, H, bi, off, q, o, c, cs, sc, v, S, hbi, hoff, hL, hnd, hb, hq, hws, hpos, hc, hF, hfit, hshort, hsz => along_end hbi hoff hL hnd hb hF hfit hshort hsz
 | n :: ws, l, k, H, bi, off, q, o, c, cs, sc, v, S, hbi, hoff, hL, hnd, hb, hq, hws, hpos, hc, hF, hfit, hshort, hsz => by
  cases hx : l[k]? with
  | none => rw [leadTo, hx] at hfit; simp [fitsOf] at hfit
  | some x =>
   rw [leadTo_some hx] at hfit hshort
   have hxs := Sm.sizes_mem (List.mem_of_getElem? hx)
   obtain ⟨i, cap, junk, rows, S1, Sk, S2, r, rfl, rfl, hi, hr, he, hw, hl, hback⟩ := hL.openS hx
   obtain ⟨n1, n2, n3, n4, n5, n6⟩ := nodup_open hnd
   have hroom := flat_room hw hr
   have hkl := get_len hx
   have hk' : (k : Int) < l.length := by omega
   have hn0 := (hpos n (by simp)).1
   have hn1 := (hpos n (by simp)).2
   have hw0 := hws 0 n rfl
   rw [Nat.add_zero] at hw0
   have hsub := sub_size x n
   have hcl : ws.length + 1 ≤ c := by simpa using hc
   have ha := bit_and hn0 hn1
   have hm : min 1 IntKind.i64.bits = 1 := by decide
   have hfd : n.fdiv 2 = n / 2 := Int.fdiv_eq_ediv_of_nonneg _ (by omega)
   have hnn : ((n / 2).toNat : Int) = n / 2 := by omega
   have b6 : (1 : Int) ≤ (ws.length : Int) + 1 := by omega
   have b1 : (0 : Int) < (ws.length : Int) + 1 := by omega
   have b2 : ¬ ((ws.length : Int) + 1 = 0) := by omega
   have b3 : ws.length + 1 - 1 = ws.length := by omega
   have b4 : (ws.length : Int) + 1 ≤ c := by omega
   have b5 : ((ws.length : Int) + 1).toNat = ws.length + 1 := by omega
   have hbi' : bi ≠ i := fun e => hb (by simp [e])
   have hbk : bi ∉ Sk := fun h => hb (by simp [h])
   obtain ⟨ff, fc, fp, rfl⟩ := hF.fn
   have hcs : ∀ j, j < 7 → (rows.flatten ++ junk)[k * 7 + j]? = r[j]? := fun j hj => row_at hw hr junk j hj
   have hset := fun j (hj : j < 7) c => row_set hw hr junk j hj c
   rw [editAt_some hx]
   obtain ⟨op, s, m, xe, xb, xc, g⟩ := x
   obtain ⟨v1, v2, v3, T1, T2, T3, rfl, rfl, l1, l2, l3⟩ := he
   obtain ⟨d1, d23, d123⟩ := List.nodup_append.1 n4
   obtain ⟨d2, d3, d4⟩ := List.nodup_append.1 d23
   by_cases hodd : n % 2 = 1
   ·have hS : Sm.sub (.mk op s m xe xb xc g) n = xc := by simp [Sm.sub, hodd, Sm.els]
    rw [hS] at hfit hshort hsub ⊢
    have hT3 : ∀ j, j ∈ T3 → j ∈ T1 ++ (T2 ++ T3) := fun j hj => by simp [hj]
    obtain ⟨K, i', n', c', S', hrun, hKi, hLK, hless, hfr⟩ := along_ok kind _ ws xc (n / 2).toNat H i (k * 7 + 5) q (o + 1) (c - 1) _ sc v3 T3 hi (hcs 5 (by omega)) l3 d3 (fun h => n2 (hT3 _ h)) hq
     (fun j nn hj => by rw [Nat.add_assoc, Nat.add_comm 1 j]; exact hws (j + 1) nn (by simpa using hj)) (fun nn hnn => hpos nn (by simp [hnn])) (by omega) hF hfit hshort (by omega)
    rw [hset 5 (by omega)] at hKi
    have f1 : ∀ j, j ∉ T3 → j ≠ i → K[j]? = H[j]? := hfr
    have hall : ∀ j, j ∈ T1 ++ T2 → K[j]? = H[j]? := fun j hj => by
     refine f1 j (fun h => ?_) (fun e => n2 (by subst e; rcases List.mem_append.1 hj with h | h <;> simp [h]))
     rcases List.mem_append.1 hj with h' | h'
     ·exact d123 j h' j (List.mem_append_right _ h) rfl
     ·exact d4 j h' j h rfl
    have hmain := hback K (.mk op s m xe xb (editAt kind xc (n / 2).toNat ws) g) _ (T1 ++ (T2 ++ S')) (fun j hj => by
      refine f1 j (fun h => ?_) (fun e => ?_)
      ·rcases List.mem_append.1 hj with h' | h'
       ·exact n5 j (hT3 j h) h'
       ·exact n6 j (hT3 j h) h'
      ·subst e
       rcases List.mem_append.1 hj with h' | h'
       ·exact n1 h'
       ·exact n3 h') hKi ⟨v1, v2, .mg 7 i' 0 n' c', T1, T2, S', rfl, rfl, l1.frame (fun j hj => hall j (by simp [hj])) (fun rows S'' hs h => Ex.reps_frame h fun j hj => hall j (by simp [hs j hj])),
       l2.frame (fun j hj => hall j (by simp [hj])) (fun rows S'' hs h => Sm.reps_frame h fun j hj => hall j (by simp [hs j hj])), hLK⟩
    have hws2 : Sm.withSub (.mk op s m xe xb xc g) n (editAt kind xc (n / 2).toNat ws) = .mk op s m xe xb (editAt kind xc (n / 2).toNat ws) g := by simp [Sm.withSub, hodd]
    rw [hws2]
    have hT : ∀ j, j ∉ (i :: (S1 ++ (T1 ++ (T2 ++ T3) ++ S2))) → j ∉ T3 ∧ j ≠ i := fun j hj => by
     simp only [List.mem_cons, List.mem_append, not_or] at hj
     exact ⟨hj.2.2.1.2.2, hj.1⟩
    have hbT := hT bi hb
    refine ⟨K, i, l.length, cap, _, ?_, ?_, by rw [List.length_set] at hmain ⊢; exact hmain, Less.cons (Less.mid ?_ S1 S2) i, fun j hj hjb => f1 j (hT j hj).1 (hT j hj).2⟩
    ·rw [hnn] at hrun
     rw [eval_W tw_rewrite_along rfl]
     simp [c_rewrite_along_w, hbi, hoff, hk', hq, hw0, b1, b2, b3, b4, b5, b6, ha, hodd, hm, hfd, hrun]
    ·rw [f1 bi hbT.1 hbT.2, hbi, set_id hoff]
    ·have := hless.mid (T1 ++ T2) []
     simpa using this
   ·have hS : Sm.sub (.mk op s m xe xb xc g) n = xb := by simp [Sm.sub, hodd, Sm.body]
    rw [hS] at hfit hshort hsub ⊢
    have hT3 : ∀ j, j ∈ T2 → j ∈ T1 ++ (T2 ++ T3) := fun j hj => by simp [hj]
    obtain ⟨K, i', n', c', S', hrun, hKi, hLK, hless, hfr⟩ := along_ok kind _ ws xb (n / 2).toNat H i (k * 7 + 4) q (o + 1) (c - 1) _ sc v2 T2 hi (hcs 4 (by omega)) l2 d2 (fun h => n2 (hT3 _ h)) hq
     (fun j nn hj => by rw [Nat.add_assoc, Nat.add_comm 1 j]; exact hws (j + 1) nn (by simpa using hj)) (fun nn hnn => hpos nn (by simp [hnn])) (by omega) hF hfit hshort (by omega)
    rw [hset 4 (by omega)] at hKi
    have f1 : ∀ j, j ∉ T2 → j ≠ i → K[j]? = H[j]? := hfr
    have hall : ∀ j, j ∈ T1 ++ T3 → K[j]? = H[j]? := fun j hj => by
     refine f1 j (fun h => ?_) (fun e => n2 (by subst e; rcases List.mem_append.1 hj with h | h <;> simp [h]))
     rcases List.mem_append.1 hj with h' | h'
     ·exact d123 j h' j (List.mem_append_left _ h) rfl
     ·exact d4 j h j h' rfl
    have hmain := hback K (.mk op s m xe (editAt kind xb (n / 2).toNat ws) xc g) _ (T1 ++ (S' ++ T3)) (fun j hj => by
      refine f1 j (fun h => ?_) (fun e => ?_)
      ·rcases List.mem_append.1 hj with h' | h'
       ·exact n5 j (hT3 j h) h'
       ·exact n6 j (hT3 j h) h'
      ·subst e
       rcases List.mem_append.1 hj with h' | h'
       ·exact n1 h'
       ·exact n3 h') hKi ⟨v1, .mg 7 i' 0 n' c', v3, T1, S', T3, rfl, rfl, l1.frame (fun j hj => hall j (by simp [hj])) (fun rows S'' hs h => Ex.reps_frame h fun j hj => hall j (by simp [hs j hj])),
       hLK, l3.frame (fun j hj => hall j (by simp [hj])) (fun rows S'' hs h => Sm.reps_frame h fun j hj => hall j (by simp [hs j hj]))⟩
    have hws2 : Sm.withSub (.mk op s m xe xb xc g) n (editAt kind xb (n / 2).toNat ws) = .mk op s m xe (editAt kind xb (n / 2).toNat ws) xc g := by simp [Sm.withSub, hodd]
    rw [hws2]
    have hT : ∀ j, j ∉ (i :: (S1 ++ (T1 ++ (T2 ++ T3) ++ S2))) → j ∉ T2 ∧ j ≠ i := fun j hj => by
     simp only [List.mem_cons, List.mem_append, not_or] at hj
     exact ⟨hj.2.2.1.2.1, hj.1⟩
    have hbT := hT bi hb
    refine ⟨K, i, l.length, cap, _, ?_, ?_, by rw [List.length_set] at hmain ⊢; exact hmain, Less.cons (Less.mid ?_ S1 S2) i, fun j hj hjb => f1 j (hT j hj).1 (hT j hj).2⟩
    ·rw [hnn] at hrun
     rw [eval_W tw_rewrite_along rfl]
     simp [c_rewrite_along_w, hbi, hoff, hk', hq, hw0, b1, b2, b3, b4, b5, b6, ha, hodd, hm, hfd, hrun]
    ·rw [f1 bi hbT.1 hbT.2, hbi, set_id hoff]
    ·have := hless.mid T1 T3
     simpa using this
def nWay (s : Si) : List Int := (s.way.take s.deep.toNat).drop 1
def kWay (s : Si) : Nat := (s.way.getD 0 0).toNat
def Pg.edited (p : Pg) (s : Si) : Pg :=
 if s.part ≤ 0 then { p with main := editAt s.kind p.main (kWay s) (nWay s) }
 else match p.procs[(s.part - 1).toNat]? with
  | some x => { p with procs := p.procs.set (s.part - 1).toNat (x.1, editAt s.kind x.2 (kWay s) (nWay s)) }
  | none => p
def zeroPg : Pg := ⟨[], [], [], []⟩
def Pg.applied (p : Pg) (s : Si) : Pg := if fitsOf s.kind (leadOf p s) = true then p.edited s else zeroPg
mutual
theorem half_size : ∀ e : Ex, e.half.size = e.size
 | .mk _ _ _ _ => rfl
end
theorem sizes_set_le : ∀ (l : List Sm) (k : Nat) (x y : Sm), l[k]? = some x → y.size ≤ x.size → Sm.sizes (l.set k y) ≤ Sm.sizes l
 | [], k, x, y, h, _ => by simp at h
 | e :: l, 0, x, y, h, hy => by
  simp only [List.getElem?_cons_zero, Option.some.injEq] at h
  subst h
  simp only [List.set_cons_zero, Sm.sizes]; omega
 | e :: l, k + 1, x, y, h, hy => by
  simp only [List.getElem?_cons_succ] at h
  have := sizes_set_le l k x y h hy
  simp only [List.set_cons_succ, Sm.sizes]; omega
theorem esizes_set : ∀ (l : List Ex) (k : Nat) (x y : Ex), l[k]? = some x → y.size = x.size → Ex.sizes (l.set k y) = Ex.sizes l
 | [], k, x, y, h, _ => by simp at h
 | e :: l, 0, x, y, h, hy => by
  simp only [List.getElem?_cons_zero, Option.some.injEq] at h
  subst h
  simp only [List.set_cons_zero, Ex.sizes]; omega
 | e :: l, k + 1, x, y, h, hy => by
  simp only [List.getElem?_cons_succ] at h
  have := esizes_set l k x y h hy
  simp only [List.set_cons_succ, Ex.sizes]; omega
theorem halfLast_size (l : List Ex) : Ex.sizes (halfLast l) = Ex.sizes l := by
 unfold halfLast
 cases h : l.getLast? with
 | none => rfl
 | some e =>
  rw [List.getLast?_eq_getElem?] at h
  exact esizes_set l _ e _ h (half_size e)
theorem sizes_app (a b : List Sm) : Sm.sizes (a ++ b) = Sm.sizes a + Sm.sizes b := sizes_append a b
theorem edit_size (kind : Int) (l : List Sm) (k : Nat) : Sm.sizes (edit kind l k) ≤ Sm.sizes l := by
 unfold edit
 cases hx : l[k]? with
 | none => exact Nat.le_refl _
 | some x =>
  simp only
  split
  ·exact sizes_set_le l k x _ hx (by cases x; exact Nat.le_refl _)
  split
  ·exact sizes_set_le l k x _ hx (by cases x; exact Nat.le_refl _)
  split
  ·exact sizes_set_le l k x _ hx (by cases x; simp only [Sm.tear, Sm.size, halfLast_size]; exact Nat.le_refl _)
  split
  ·unfold swapAt
   rw [hx]
   cases hy : l[k + 1]? with
   | none => exact Nat.le_refl _
   | some y =>
    obtain ⟨A, B, rfl, hA⟩ := split_two hx hy
    have hse : ((A ++ x :: y :: B).set k y).set (k + 1) x = A ++ y :: x :: B := by
     rw [List.set_append_right _ _ (by omega), List.set_append_right _ _ (by omega), hA, Nat.sub_self, show k + 1 - k = 1 by omega]; rfl
    simp only [hse, sizes_app, Sm.sizes]; omega
  ·obtain ⟨A, B, rfl, hA⟩ := split_row hx
   rw [eraseIdx_mid hA]
   simp only [sizes_app, Sm.sizes]; omega
theorem editAt_size (kind : Int) : ∀ (ws : List Int) (l : List Sm) (k : Nat), Sm.sizes (editAt kind l k ws) ≤ Sm.sizes l
 | [], l, k => edit_size kind l k
 | n :: ws, l, k => by
  cases hx : l[k]? with
  | none => rw [editAt, hx]; exact Nat.le_refl _
  | some x =>
   rw [editAt_some hx]
   refine sizes_set_le l k x _ hx ?_
   have := editAt_size kind ws (x.sub n) (n / 2).toNat
   obtain ⟨op, s, m, xe, xb, xc, g⟩ := x
   by_cases h : n % 2 = 1
   ·simp only [Sm.sub, Sm.withSub, h, if_true, Sm.els, Sm.body, Sm.size] at this ⊢; omega
   ·simp only [Sm.sub, Sm.withSub, h, if_false, Sm.els, Sm.body, Sm.size] at this ⊢; omega
theorem psize_set : ∀ (l : List (List UInt8 × List Sm)) (i : Nat) (x y : List UInt8 × List Sm), l[i]? = some x → Sm.sizes y.2 ≤ Sm.sizes x.2 → ((l.set i y).map fun x => 1 + Sm.sizes x.2).sum ≤ (l.map fun x => 1 + Sm.sizes x.2).sum
 | [], k, x, y, h, _ => by simp at h
 | e :: l, 0, x, y, h, hy => by
  simp only [List.getElem?_cons_zero, Option.some.injEq] at h
  subst h
  simp only [List.set_cons_zero, List.map_cons, List.sum_cons]; omega
 | e :: l, k + 1, x, y, h, hy => by
  simp only [List.getElem?_cons_succ] at h
  have := psize_set l k x y h hy
  simp only [List.set_cons_succ, List.map_cons, List.sum_cons]; omega
theorem Pg.edited_size (p : Pg) (s : Si) : (p.edited s).size ≤ p.size := by
 unfold Pg.edited
 split
 ·have := editAt_size s.kind (nWay s) p.main (kWay s)
  simp only [Pg.size, Pg.psize, Pg.osize] at this ⊢; omega
 ·split
  ·rename_i x hx
   have := psize_set p.procs (s.part - 1).toNat x (x.1, editAt s.kind x.2 (kWay s) (nWay s)) hx (editAt_size s.kind (nWay s) x.2 (kWay s))
   simp only [Pg.size, Pg.psize, Pg.osize] at this ⊢; omega
  ·exact Nat.le_refl _
theorem GReps.frz {α : Type} {R : Heap → α → List V → List Nat → Prop} {g : α → List V} {n : Nat} (hR : ∀ H K a r S, R H a r S → (∀ i ∈ S, K[i]? = H[i]?) → R K a r S) : ∀ {l : List α} {H : Heap} {rows : List (List V)} {S : List Nat},
  (∀ e ∈ l, ∀ H r S, R H e r S → S.Nodup → ∃ K, frzL (frzV n) H r = some (g e, K) ∧ ∀ j, j ∉ S → K[j]? = H[j]?) → GReps R H l rows S → S.Nodup →
  ∃ K, frzL (frzV n) H rows.flatten = some ((l.map g).flatten, K) ∧ ∀ j, j ∉ S → K[j]? = H[j]?
 | [], H, _, _, _, ⟨rfl, rfl⟩, _ => ⟨H, rfl, fun _ _ => rfl⟩
 | e :: l, H, _, _, hf, ⟨r, rs, S1, S2, rfl, rfl, h3, h4⟩, hnd => by
  obtain ⟨d1, d2, d3⟩ := List.nodup_append.1 hnd
  obtain ⟨K1, k1, f1⟩ := hf e (by simp) H r S1 h3 d1
  obtain ⟨K2, k2, f2⟩ := GReps.frz hR (fun e he => hf e (by simp [he])) (GReps.frame hR h4 fun j hj => f1 j fun h => d3 j h j hj rfl) d2
  refine ⟨K2, by rw [List.flatten_cons, List.map_cons, List.flatten_cons]; exact frzL_app k1 k2, fun j hj => ?_⟩
  rw [f2 j fun h => hj (List.mem_append_right _ h), f1 j fun h => hj (List.mem_append_left _ h)]
theorem frzListG {α : Type} {R : Heap → α → List V → List Nat → Prop} {g : α → List V} {n w : Nat} (hR : ∀ H K a r S, R H a r S → (∀ i ∈ S, K[i]? = H[i]?) → R K a r S) (hw : ∀ H a r S, R H a r S → r.length = w) (hg : ∀ e, (g e).length = w)
  {l : List α} {H : Heap} {v : V} {S : List Nat} (hf : ∀ e ∈ l, ∀ H r S, R H e r S → S.Nodup → ∃ K, frzL (frzV n) H r = some (g e, K) ∧ ∀ j, j ∉ S → K[j]? = H[j]?) (h : LRep w H l.length v S (GReps R H l)) (hnd : S.Nodup) :
  ∃ K, frzV (n + 1) H v = some (.sl w (l.map g), K) ∧ ∀ j, j ∉ S → K[j]? = H[j]? :=
 frz_list (n := n) (rowsL := l.map g) h hnd (fun rows S' h => h.flat hw) (fun r hr => by obtain ⟨e, _, rfl⟩ := List.mem_map.1 hr; exact hg e) (by simp)
  (fun rows S' i h h2 h3 => GReps.frz hR hf (GReps.frame hR h fun j hj => set_ne (fun e => h3 (e ▸ hj))) h2)
theorem Pg.frz {p : Pg} {H : Heap} {cells : List V} {S : List Nat} {n : Nat} (h : Pg.rep H p cells S) (hnd : S.Nodup) (hn : p.size ≤ n) : ∃ K, frzL (frzV (n + 2)) H cells = some (p.cells, K) ∧ ∀ j, j ∉ S → K[j]? = H[j]? := by
 obtain ⟨v1, v2, v3, v4, S1, S2, S3, S4, rfl, rfl, l1, l2, l3, l4⟩ := h
 have hs := p.size_eq
 have hp : ∀ x ∈ p.procs, Sm.sizes x.2 ≤ n := fun x hx => by
  have hm : x.2 ∈ p.bodies := by simp only [Pg.bodies, List.mem_map]; exact ⟨x, hx, rfl⟩
  have := sizes_flatten hm
  omega
 have ho : ∀ x ∈ p.oracles, x.2.size ≤ n := fun x hx => by
  have hm : x.2 ∈ p.exprs := by simp only [Pg.exprs, List.mem_map]; exact ⟨x, hx, rfl⟩
  have := Ex.sizes_mem hm
  omega
 obtain ⟨d1, d234, e1⟩ := List.nodup_append.1 hnd
 obtain ⟨d2, d34, e2⟩ := List.nodup_append.1 d234
 obtain ⟨d3, d4, e3⟩ := List.nodup_append.1 d34
 obtain ⟨K1, k1, f1⟩ := frzListG (R := PrR) (g := procV) (n := n + 1) (fun _ _ _ _ _ h hS => PrR.frame h hS) (fun _ _ _ _ h => PrR.len h) (fun _ => rfl) (fun x hx H r S h hnd => by
  obtain ⟨v, rfl, hv⟩ := h
  obtain ⟨K, hK, hfr⟩ := Sm.frzList hv hnd (hp x hx)
  exact ⟨K, frzL_cons (H1 := H) (by simp [frzV]) (frzL_cons hK rfl), hfr⟩) l1 d1
 have g2 : ∀ j ∈ S2, K1[j]? = H[j]? := fun j hj => f1 j fun h => e1 j h j (by simp [hj]) rfl
 obtain ⟨K2, k2, f2⟩ := Sm.frzList (n := n + 1) (l2.frame g2 fun rows S' hs h => Sm.reps_frame h fun j hj => g2 j (hs j hj)) d2 (by omega)
 have g3 : ∀ j ∈ S3, K2[j]? = H[j]? := fun j hj => by rw [f2 j fun h => e2 j h j (by simp [hj]) rfl, f1 j fun h => e1 j h j (by simp [hj]) rfl]
 obtain ⟨K3, k3, f3⟩ := Sm.frzList (n := n + 1) (l3.frame g3 fun rows S' hs h => Sm.reps_frame h fun j hj => g3 j (hs j hj)) d3 (by omega)
 have g4 : ∀ j ∈ S4, K3[j]? = H[j]? := fun j hj => by rw [f3 j fun h => e3 j h j hj rfl, f2 j fun h => e2 j h j (by simp [hj]) rfl, f1 j fun h => e1 j h j (by simp [hj]) rfl]
 obtain ⟨K4, k4, f4⟩ := frzListG (R := OrR) (g := oracleV) (n := n + 1) (fun _ _ _ _ _ h hS => OrR.frame h hS) (fun _ _ _ _ h => OrR.len h) (fun x => by obtain ⟨s, e⟩ := x; cases e; rfl) (fun x hx H r S h hnd => by
  obtain ⟨c, rfl, hv⟩ := h
  obtain ⟨K, hK, hfr⟩ := Ex.frz x.2 (n + 1) H c S hv hnd (by have := ho x hx; omega)
  exact ⟨K, frzL_cons (H1 := H) (by simp [frzV]) hK, hfr⟩) (l4.frame g4 fun rows S' hs h => GReps.frame (R := OrR) (fun _ _ _ _ _ h hS => OrR.frame h hS) h fun j hj => g4 j (hs j hj)) d4
 refine ⟨K4, frzL_cons k1 (frzL_cons k2 (frzL_cons k3 (frzL_cons k4 rfl))), fun j hj => ?_⟩
 simp only [List.mem_append, not_or] at hj
 rw [f4 j hj.2.2.2, f3 j hj.2.2.1, f2 j hj.2.1, f1 j hj.1]
theorem txts_mem {l : List Sm} : Sm.txts l ↔ ∀ e ∈ l, e.txt := by
 induction l with
 | nil => simp [Sm.txts]
 | cons e l ih => simp [Sm.txts, ih]
theorem etxts_mem {l : List Ex} : Ex.txts l ↔ ∀ e ∈ l, e.txt := by
 induction l with
 | nil => simp [Ex.txts]
 | cons e l ih => simp [Ex.txts, ih]
theorem leadTo_txts : ∀ (ws : List Int) (b : List Sm) (k : Nat), Sm.txts b → Sm.txts (leadTo b k ws)
 | [], b, k, h => by rw [leadTo]; exact txts_mem.2 fun e he => txts_mem.1 h e (List.mem_of_mem_drop he)
 | n :: ws, b, k, h => by
  cases hx : b[k]? with
  | none => rw [leadTo_none (by rw [List.getElem?_eq_none_iff] at hx; exact hx)]; trivial
  | some x =>
   rw [leadTo_some hx]
   have hxt := txts_mem.1 h x (List.mem_of_getElem? hx)
   refine leadTo_txts ws _ _ ?_
   obtain ⟨op, s, m, xs, xb, xc, g⟩ := x
   unfold Sm.sub
   split
   ·exact hxt.2.2.2
   ·exact hxt.2.2.1
theorem Short.of_txts {X : List Sm} (h : Sm.txts X) : Short X := by
 intro x e hx he
 have hxm : x ∈ X := List.mem_of_head? hx
 have h1 := txts_mem.1 h x hxm
 obtain ⟨op, s, m, xs, xb, xc, g⟩ := x
 have h2 := etxts_mem.1 h1.2.1 e (List.mem_of_getLast? he)
 obtain ⟨_, _, t, _⟩ := e
 exact h2.1
set_option maxHeartbeats 2000000
theorem nWay_at {s : Si} (ok : s.ok) {d : Nat} (hd : s.deep = d) (h1 : 1 ≤ d) (h8 : d ≤ 8) : (nWay s).length = d - 1 ∧ ∀ i n, (nWay s)[i]? = some n → s.cells[3 + i]? = some (iv n) := by
 have hl : s.way.length = 8 := ok
 unfold nWay
 rw [hd, Int.toNat_natCast]
 refine ⟨by simp [hl]; omega, fun i n h => ?_⟩
 rw [List.getElem?_drop, List.getElem?_take] at h
 split at h
 ·have := Si.cw h
  rw [show 3 + i = 2 + (1 + i) by omega]; exact this
 ·cases h
theorem leadOf_parts {p : Pg} {s : Si} {kind : Int} (h : fitsOf kind (leadOf p s) = true) : 0 ≤ s.part ∧ s.part < p.blocks.length ∧ s.may = true ∧ leadOf p s = leadTo (p.blocks.getD s.part.toNat []) (kWay s) (nWay s) := by
 unfold leadOf at h ⊢
 split at h
 ·rename_i hc
  rw [if_pos hc]
  exact ⟨hc.1, hc.2.1, hc.2.2, rfl⟩
 ·simp [fitsOf] at h
theorem edited_main {H : Heap} {p : Pg} {s : Si} {cells : List V} {S : List Nat} {b d : Nat} {fv : V} {q : Nat} (hp : p.size ≤ 1000) (ht : p.txt) (hf : s.fit) (hrep : Pg.rep H p cells S) (hnd : S.Nodup) (hb : H[b]? = some (some cells)) (hbS : b ∉ S) (hq : H[q]? = some (some s.cells))
  (hd : s.deep = d) (h1 : 1 ≤ d) (h8 : d ≤ 8) (hF : FV H s.kind fv) (hfit : fitsOf s.kind (leadOf p s) = true) (h0 : s.part = 0) :
  ∃ K cells' S', eval tbl noExt (wNo n_rewrite_along) [.ptr b 1, .int .i64 (s.way.getD 0 0), .ms q 3 (d - 1) 7, fv] H = some (.tup [], K) ∧ K[b]? = some (some cells') ∧ cells'.length = 4 ∧ Pg.rep K (p.edited s) cells' S' ∧ S'.Nodup ∧ (∀ j ∈ S', j ∈ S) ∧ ∀ j, j ∉ S → j ≠ b → K[j]? = H[j]? := by
 obtain ⟨g0, g1, g2, g3⟩ := leadOf_parts hfit
 obtain ⟨m1, m2, m3⟩ := may_all g2
 obtain ⟨hwl, hwa⟩ := nWay_at hf.1 hd h1 h8
 rw [g3] at hfit
 rw [h0] at hfit
 have hblk : p.blocks.getD (0 : Int).toNat [] = p.main := rfl
 rw [hblk] at hfit
 obtain ⟨v1, v2, v3, v4, S1, S2, S3, S4, rfl, rfl, l1, l2, l3, l4⟩ := hrep
 obtain ⟨d1, d234, e1⟩ := List.nodup_append.1 hnd
 obtain ⟨d2, d34, e2⟩ := List.nodup_append.1 d234
 obtain ⟨d3, d4, e3⟩ := List.nodup_append.1 d34
 have hs := p.size_eq
 have hsh : Short (leadTo p.main (kWay s) (nWay s)) := .of_txts (leadTo_txts _ _ _ ht.2.1)
 have hk : ((kWay s : Nat) : Int) = s.way.getD 0 0 := by
  have := m3 _ (getD_mem (l := s.way) (by rw [show s.way.length = 8 from hf.1]; omega))
  unfold kWay; omega
 simp only [List.mem_append, not_or] at hbS
 obtain ⟨K, i, n, c, S2', hrun, hKb, hLK, hless, hfr⟩ := along_ok s.kind fv (nWay s) p.main (kWay s) H b 1 q 3 7 _ s.cells v2 S2 hb rfl l2 d2 hbS.2.1 hq hwa
  (fun n hn => ⟨m3 n (List.mem_of_mem_take (List.mem_of_mem_drop hn)), (fit_range (hf.2.2.2.1 n (List.mem_of_mem_take (List.mem_of_mem_drop hn)))).2⟩) (by omega) hF hfit hsh (by omega)
 rw [hk, hwl] at hrun
 have f : ∀ j, j ∉ S2 → j ≠ b → K[j]? = H[j]? := hfr
 have f1 : ∀ j ∈ S1, K[j]? = H[j]? := fun j hj => f j (fun h => e1 j hj j (by simp [h]) rfl) (fun e => hbS.1 (e ▸ hj))
 have f3 : ∀ j ∈ S3, K[j]? = H[j]? := fun j hj => f j (fun h => e2 j h j (by simp [hj]) rfl) (fun e => hbS.2.2.1 (e ▸ hj))
 have f4 : ∀ j ∈ S4, K[j]? = H[j]? := fun j hj => f j (fun h => e2 j h j (by simp [hj]) rfl) (fun e => hbS.2.2.2 (e ▸ hj))
 have hLess : Less (S1 ++ (S2' ++ (S3 ++ S4))) (S1 ++ (S2 ++ (S3 ++ S4))) := hless.mid S1 (S3 ++ S4)
 have hed : p.edited s = { p with main := editAt s.kind p.main (kWay s) (nWay s) } := by unfold Pg.edited; rw [if_pos (by omega)]
 refine ⟨K, _, S1 ++ (S2' ++ (S3 ++ S4)), hrun, hKb, by simp, ?_, hLess.nodup hnd, fun j hj => hLess.mem hj, fun j hj hjb => f j (fun h => hj (by simp [h])) hjb⟩
 rw [hed]
 exact ⟨v1, .mg 7 i 0 n c, v3, v4, S1, S2', S3, S4, rfl, rfl, l1.frame f1 (fun rows S' hs h => GReps.frame (R := PrR) (fun _ _ _ _ _ h hS => PrR.frame h hS) h fun j hj => f1 j (hs j hj)), hLK,
  l3.frame f3 (fun rows S' hs h => Sm.reps_frame h fun j hj => f3 j (hs j hj)), l4.frame f4 (fun rows S' hs h => GReps.frame (R := OrR) (fun _ _ _ _ _ h hS => OrR.frame h hS) h fun j hj => f4 j (hs j hj))⟩
theorem edited_proc {H : Heap} {p : Pg} {s : Si} {cells : List V} {S : List Nat} {b d : Nat} {fv : V} {q : Nat} (hp : p.size ≤ 1000) (ht : p.txt) (hf : s.fit) (hrep : Pg.rep H p cells S) (hnd : S.Nodup) (hb : H[b]? = some (some cells)) (hbS : b ∉ S) (hq : H[q]? = some (some s.cells)) (hqS : q ∉ S)
  (hd : s.deep = d) (h1 : 1 ≤ d) (h8 : d ≤ 8) (hF : FV H s.kind fv) (hfit : fitsOf s.kind (leadOf p s) = true) (h0 : 0 < s.part) :
  ∃ i n c m, cells[0]? = some (.mg 2 i 0 n c) ∧ s.part = ((m + 1 : Nat) : Int) ∧ m < n ∧
   ∃ K S', eval tbl noExt (wNo n_rewrite_along) [.ptr i (m * 2 + 1), .int .i64 (s.way.getD 0 0), .ms q 3 (d - 1) 7, fv] H = some (.tup [], K) ∧ K[b]? = some (some cells) ∧ Pg.rep K (p.edited s) cells S' ∧ S'.Nodup ∧ (∀ j ∈ S', j ∈ S) ∧ ∀ j, j ∉ S → K[j]? = H[j]? := by
 obtain ⟨g0, g1, g2, g3⟩ := leadOf_parts hfit
 obtain ⟨m1, m2, m3⟩ := may_all g2
 obtain ⟨hwl, hwa⟩ := nWay_at hf.1 hd h1 h8
 obtain ⟨m, hm⟩ : ∃ m : Nat, s.part = ((m + 1 : Nat) : Int) := ⟨(s.part - 1).toNat, by omega⟩
 have hbl := p.blocks_len
 have hmn : m < p.procs.length := by omega
 obtain ⟨x, hx⟩ : ∃ x, p.procs[m]? = some x := ⟨_, List.getElem?_eq_getElem hmn⟩
 have hblk : p.blocks.getD s.part.toNat [] = x.2 := by
  rw [hm, Int.toNat_natCast, List.getD_eq_getElem?_getD]
  simp [Pg.blocks, hx]
 rw [g3, hblk] at hfit
 obtain ⟨v1, v2, v3, v4, S1, S2, S3, S4, rfl, rfl, l1, l2, l3, l4⟩ := hrep
 obtain ⟨d1, d234, e1⟩ := List.nodup_append.1 hnd
 have hs := p.size_eq
 have hxm := List.mem_of_getElem? hx
 have hxs : Sm.sizes x.2 ≤ 1000 := by
  have hm : x.2 ∈ p.bodies := by simp only [Pg.bodies, List.mem_map]; exact ⟨x, hxm, rfl⟩
  have := sizes_flatten hm
  omega
 have hsh : Short (leadTo x.2 (kWay s) (nWay s)) := .of_txts (leadTo_txts _ _ _ (ht.1 x hxm).2)
 have hk : ((kWay s : Nat) : Int) = s.way.getD 0 0 := by
  have := m3 _ (getD_mem (l := s.way) (by rw [show s.way.length = 8 from hf.1]; omega))
  unfold kWay; omega
 obtain ⟨i, cap, junk, rows, T1, Tk, T2, r, rfl, rfl, hi, hr, ⟨v, rfl, hv⟩, hw, hl, hback⟩ := LRep.openG (R := PrR) (fun _ _ _ _ _ h hS => PrR.frame h hS) (fun _ _ _ _ h => PrR.len h) l1 hx
 obtain ⟨n1, n2, n3, n4, n5, n6⟩ := nodup_open d1
 have c1 : (rows.flatten ++ junk)[m * 2 + 1]? = some v := by rw [row_at hw hr junk 1 (by omega)]; rfl
 obtain ⟨K, i', n, c, S', hrun, hKb, hLK, hless, hfr⟩ := along_ok s.kind fv (nWay s) x.2 (kWay s) H i (m * 2 + 1) q 3 7 _ s.cells v Tk hi c1 hv n4 n2 hq hwa
  (fun n hn => ⟨m3 n (List.mem_of_mem_take (List.mem_of_mem_drop hn)), (fit_range (hf.2.2.2.1 n (List.mem_of_mem_take (List.mem_of_mem_drop hn)))).2⟩) (by omega) hF hfit hsh (by omega)
 rw [hk, hwl] at hrun
 rw [row_set hw hr junk 1 (by omega)] at hKb
 have hin : ∀ j, j ∈ Tk → j ∈ i :: (T1 ++ (Tk ++ T2)) := fun j hj => by simp [hj]
 have f2 : ∀ j ∈ S2 ++ (S3 ++ S4), K[j]? = H[j]? := fun j hj => hfr j (fun h => e1 j (hin j h) j hj rfl) (fun e => e1 i (by simp) j hj e.symm)
 have hbk := hback K (x.1, editAt s.kind x.2 (kWay s) (nWay s)) _ S' (fun j hj => hfr j (fun h => by
   rcases List.mem_append.1 hj with h' | h'
   ·exact n5 j h h'
   ·exact n6 j h h') (fun e => by
   subst e
   rcases List.mem_append.1 hj with h' | h'
   ·exact n1 h'
   ·exact n3 h')) hKb ⟨.mg 7 i' 0 n c, rfl, hLK⟩
 have hLess : Less (i :: (T1 ++ (S' ++ T2)) ++ (S2 ++ (S3 ++ S4))) (i :: (T1 ++ (Tk ++ T2)) ++ (S2 ++ (S3 ++ S4))) := by
  have := ((hless.mid T1 T2).cons i).mid [] (S2 ++ (S3 ++ S4))
  simpa using this
 have hed : p.edited s = { p with procs := p.procs.set m (x.1, editAt s.kind x.2 (kWay s) (nWay s)) } := by
  unfold Pg.edited
  rw [if_neg (by omega), show (s.part - 1).toNat = m by omega, hx]
 refine ⟨i, p.procs.length, cap, m, rfl, hm, hmn, K, i :: (T1 ++ (S' ++ T2)) ++ (S2 ++ (S3 ++ S4)), hrun, ?_, ?_, hLess.nodup hnd, fun j hj => hLess.mem hj, fun j hj => ?_⟩
 ·rw [hfr b (fun h => hbS (List.mem_append_left _ (hin b h))) (fun e => hbS (by simp [e])), hb]
 ·rw [hed]
  rw [List.length_set] at hbk
  refine ⟨.mg 2 i 0 p.procs.length cap, v2, v3, v4, i :: (T1 ++ (S' ++ T2)), S2, S3, S4, rfl, rfl, by rw [List.length_set]; exact hbk, ?_, ?_, ?_⟩
  ·exact l2.frame (fun j hj => f2 j (by simp [hj])) fun rows S' hs h => Sm.reps_frame h fun j hj => f2 j (by simp [hs j hj])
  ·exact l3.frame (fun j hj => f2 j (by simp [hj])) fun rows S' hs h => Sm.reps_frame h fun j hj => f2 j (by simp [hs j hj])
  ·exact l4.frame (fun j hj => f2 j (by simp [hj])) fun rows S' hs h => GReps.frame (R := OrR) (fun _ _ _ _ _ h hS => OrR.frame h hS) h fun j hj => f2 j (by simp [hs j hj])
 ·exact hfr j (fun h => hj (List.mem_append_left _ (hin j h))) (fun e => hj (by simp [e]))
theorem at4 {a b c x : Option (List V)} {L r : Heap} : (a :: b :: c :: (L ++ x :: r))[L.length + 1 + 1 + 1]? = some x := by
 simp
theorem set4 {a b c x y : Option (List V)} {L r : Heap} : (a :: b :: c :: (L ++ x :: r)).set (L.length + 1 + 1 + 1) y = a :: b :: c :: (L ++ y :: r) := by
 simp
theorem Pg.rep.frame {H K : Heap} {p : Pg} {cells : List V} {S : List Nat} (h : Pg.rep H p cells S) (hS : ∀ j ∈ S, K[j]? = H[j]?) : Pg.rep K p cells S := by
 obtain ⟨v1, v2, v3, v4, S1, S2, S3, S4, rfl, rfl, l1, l2, l3, l4⟩ := h
 have f1 : ∀ j ∈ S1, K[j]? = H[j]? := fun j hj => hS j (by simp [hj])
 have f2 : ∀ j ∈ S2, K[j]? = H[j]? := fun j hj => hS j (by simp [hj])
 have f3 : ∀ j ∈ S3, K[j]? = H[j]? := fun j hj => hS j (by simp [hj])
 have f4 : ∀ j ∈ S4, K[j]? = H[j]? := fun j hj => hS j (by simp [hj])
 exact ⟨v1, v2, v3, v4, S1, S2, S3, S4, rfl, rfl, l1.frame f1 (fun rows S' hs h => GReps.frame (R := PrR) (fun _ _ _ _ _ h hS => PrR.frame h hS) h fun j hj => f1 j (hs j hj)), l2.frame f2 (fun rows S' hs h => Sm.reps_frame h fun j hj => f2 j (hs j hj)),
  l3.frame f3 (fun rows S' hs h => Sm.reps_frame h fun j hj => f3 j (hs j hj)), l4.frame f4 (fun rows S' hs h => GReps.frame (R := OrR) (fun _ _ _ _ _ h hS => OrR.frame h hS) h fun j hj => f4 j (hs j hj))⟩
theorem apply_end {K : Heap} {q : Pg} {cells' z : List V} {S' : List Nat} {b : Nat} (hrep : Pg.rep K q cells' S') (hnd : S'.Nodup) (hsz : q.size ≤ 1000) (hb : K[b]? = some (some cells')) (hbS : b ∉ S') (h2 : K[2]? = some (some z)) (h2S : 2 ∉ S') (hne : b ≠ 2) :
  ∃ K2, frzL (frzV deepest) K cells' = some (q.cells, K2) ∧ K2[b]? = some (some cells') ∧ (∀ x, (K2.set b x)[b]? = some x) ∧ (∀ x, (K2.set b x)[2]? = some (some z)) ∧ ∀ x y, ((K2.set b x).set 2 y)[2]? = some y := by
 obtain ⟨K2, hK, hfr⟩ := Pg.frz (n := 99998) hrep hnd (by omega)
 have e1 : K2[b]? = some (some cells') := by rw [hfr b hbS, hb]
 have e2 : K2[2]? = some (some z) := by rw [hfr 2 h2S, h2]
 exact ⟨K2, hK, e1, fun x => set_eq e1, fun x => by rw [set_ne (fun e => hne e.symm), e2], fun x y => set_eq (y := some z) (by rw [set_ne (fun e => hne e.symm), e2])⟩
theorem ApplyW (p : Pg) (hp : p.size ≤ 1000) (ht : p.txt) (s : Si) (hf : s.fit) : ∃ K, eval tbl noExt (wNo n_rewrite_Apply) [.agg p.cells, .agg s.cells] [] = some (.tup [.agg (p.applied s).cells, .bool (fitsOf s.kind (leadOf p s))], K) := by
 have ok := hf.1
 have hfits := Fits_eq p hp s hf
 have hcp : p.cells.length = 4 := rfl
 have hcpt : p.cells.take 4 = p.cells := rfl
 have hcps : p.cells.map V.strip = p.cells := rfl
 have hcpu : ∀ n, V.underAll n p.cells = true := fun n => rfl
 have hcpo : p.cells.all V.one = true := rfl
 have hz : zeroPg.cells = [.sl 2 [], .sl 7 [], .sl 7 [], .sl 5 []] := rfl
 have q0 := Si.c0 (s := s)
 have q1 := Si.len ok
 have q3 := Si.strip (s := s)
 have q5 := Si.take ok
 have qu := fun n => Si.under (s := s) n
 have c1 := Si.c1 (s := s)
 have c2 := Si.c2 s ok
 have c10 := Si.c10 ok
 rw [eval_W tw_rewrite_Apply rfl]
 unfold Pg.applied
 cases hv : fitsOf s.kind (leadOf p s) with
 | false =>
  rw [hv] at hfits
  simp [c_rewrite_Apply_w, hcp, hcpt, hcps, hcpu, hfits, q1, q3, q5, qu, hz]
 | true =>
  rw [hv] at hfits
  obtain ⟨g0, g1, g2, g3⟩ := leadOf_parts hv
  obtain ⟨m1, m2, m3⟩ := may_all g2
  obtain ⟨d, hd⟩ : ∃ d : Nat, s.deep = d := ⟨s.deep.toNat, by omega⟩
  have d1 : 1 ≤ d := by omega
  have d8 : d ≤ 8 := by omega
  obtain ⟨cells, L, S, hcl, hrep, hnd, hat⟩ := CloneDF p (by omega) (List.replicate 3 none)
  obtain ⟨hlen, hone, hsm, hstr⟩ : cells.length = 4 ∧ cells.all V.one = true ∧ setMany [.own 2 [], .own 7 [], .own 7 [], .own 5 []] 0 cells = cells ∧ cells.map V.strip = cells := by
   obtain ⟨v1, v2, v3, v4, _, _, _, _, rfl, _, l1, l2, l3, l4⟩ := hrep
   rcases l1 with ⟨_, rfl, _⟩ | ⟨_, _, _, _, _, rfl, _⟩ <;> rcases l2 with ⟨_, rfl, _⟩ | ⟨_, _, _, _, _, rfl, _⟩ <;> rcases l3 with ⟨_, rfl, _⟩ | ⟨_, _, _, _, _, rfl, _⟩ <;> rcases l4 with ⟨_, rfl, _⟩ | ⟨_, _, _, _, _, rfl, _⟩ <;> exact ⟨rfl, rfl, rfl, rfl⟩
  obtain ⟨fv, Lb, hby, hFV⟩ := by_ok s.kind (List.replicate (L.length + 1 + 1 + 1 + 1) none)
  rw [hd] at c10
  have hcl' : eval tbl noExt (wNo n_tree_Clone) [.agg p.cells] [none, none, none] = some (.agg cells, none :: none :: none :: L) := hcl
  have ga : ∀ h : 0 < s.cells.length, s.cells[0] = iv s.kind := fun h => rfl
  have gb : ∀ h : 1 < s.cells.length, s.cells[1] = iv s.part := fun h => rfl
  have gc : ∀ h : 2 < s.cells.length, s.cells[2] = iv (s.way.getD 0 0) := fun h => by
   rw [List.getElem?_eq_getElem h] at c2; exact Option.some.inj c2
  have gd : ∀ h : 10 < s.cells.length, s.cells[10] = iv (d : Int) := fun h => by
   rw [List.getElem?_eq_getElem h] at c10; exact Option.some.inj c10
  have b1 : (1 : Int) ≤ d := by omega
  have b2 : (d : Int) ≤ 8 := by omega
  have b3 : ¬ d = 1 → True := fun _ => trivial
  obtain ⟨HH, hHH⟩ : ∃ HH : Heap, HH = some p.cells :: some s.cells :: some [.own 2 [], .own 7 [], .own 7 [], .own 5 []] :: (L ++ some cells :: Lb) := ⟨_, rfl⟩
  have hFV' : FV HH s.kind fv := by
   have := hFV (some p.cells :: some s.cells :: some [.own 2 [], .own 7 [], .own 7 [], .own 5 []] :: (L ++ [some cells])) (by simp)
   rw [hHH]; simpa using this
  have hSin : ∀ j ∈ S, 3 ≤ j ∧ j < L.length + 3 := fun j hj => by have := hat j hj; simp at this; omega
  have hrep' : Pg.rep HH p cells S := by
   refine hrep.frame fun j hj => ?_
   obtain ⟨a1, a2⟩ := hSin j hj
   obtain ⟨q, rfl⟩ : ∃ q, j = q + 3 := ⟨j - 3, by omega⟩
   rw [hHH]
   simp only [List.getElem?_cons_succ, List.replicate, List.cons_append, List.nil_append]
   rw [List.getElem?_append_left (by omega)]
  have hHb : HH[L.length + 1 + 1 + 1]? = some (some cells) := by rw [hHH]; exact at4
  have hH1 : HH[1]? = some (some s.cells) := by rw [hHH]; rfl
  have hH2 : HH[2]? = some (some [.own 2 [], .own 7 [], .own 7 [], .own 5 []]) := by rw [hHH]; rfl
  have hbS : L.length + 1 + 1 + 1 ∉ S := fun h => by have := hSin _ h; omega
  have h1S : 1 ∉ S := fun h => by have := hSin _ h; omega
  have h2S : 2 ∉ S := fun h => by have := hSin _ h; omega
  obtain ⟨ff, fc, fp, rfl⟩ := hFV'.fn
  have hus : (p.edited s).cells.length = 4 := rfl
  have hut : (p.edited s).cells.take 4 = (p.edited s).cells := rfl
  have hum : (p.edited s).cells.map V.strip = (p.edited s).cells := rfl
  have huo : (p.edited s).cells.all V.one = true := rfl
  have hz4 : setMany [.own 2 [], .own 7 [], .own 7 [], .own 5 []] 0 (p.edited s).cells = (p.edited s).cells := rfl
  have hsz := p.edited_size s
  obtain ⟨w0, hw0⟩ : ∃ w0, w0 = s.way.getD 0 0 := ⟨_, rfl⟩
  rw [← hw0] at c2 gc
  by_cases h0 : 0 < s.part
  ·obtain ⟨i, n, c, m, hc0, hpm, hmn, K, S', hrun, hKb, hrepK, hndK, hmem, hfr⟩ := edited_proc hp ht hf hrep' hnd hHb hbS hH1 h1S hd d1 d8 hFV' hv h0
   obtain ⟨K2, k0, k1, k2, k3, k4⟩ := apply_end hrepK hndK (by omega) hKb (fun h => hbS (hmem _ h)) (by rw [hfr 2 h2S]; exact hH2) (fun h => h2S (hmem _ h)) (by omega)
   have ge : ∀ h : 0 < cells.length, cells[0] = .mg 2 i 0 n c := fun h => by
    rw [List.getElem?_eq_getElem h] at hc0; exact Option.some.inj hc0
   have hsm2 : setMany cells 0 (p.edited s).cells = (p.edited s).cells := setMany_self _ _ (by rw [hlen]; rfl)
   have hct : cells.take 4 = cells := List.take_of_length_le (by omega)
   have e1 : IntKind.i64.wrap (s.part - 1) = (m : Int) := by
    have := fit_range hf.2.2.1
    rw [w64] <;> omega
   have e2 : (m : Int) < n := by omega
   rw [← hw0] at hrun
   simp [-List.all_eq_true, -setMany, at4, set4, hone, hsm, hstr, c_rewrite_Apply_w, hcp, hcpt, hcps, hcpu, hcpo, hfits, q0, q1, q3, q5, qu, c1, c2, c10, ga, gb, gc, gd, callOwn, hcl', hlen, h0, b1, b2, hby, ← hHH, hrun, ge, e1, e2, hKb, k0, k1, k2, k3, k4, hus, hut, hum, huo, hz4, hsm2, hct]
  ·obtain ⟨K, cells', S', hrun, hKb, hl4, hrepK, hndK, hmem, hfr⟩ := edited_main hp ht hf hrep' hnd hHb hbS hH1 hd d1 d8 hFV' hv (by omega)
   obtain ⟨K2, k0, k1, k2, k3, k4⟩ := apply_end hrepK hndK (by omega) hKb (fun h => hbS (hmem _ h)) (by rw [hfr 2 h2S (by omega)]; exact hH2) (fun h => h2S (hmem _ h)) (by omega)
   have hsm2 : setMany cells' 0 (p.edited s).cells = (p.edited s).cells := setMany_self _ _ (by rw [hl4]; rfl)
   have hct : cells'.take 4 = cells' := List.take_of_length_le (by omega)
   rw [← hw0] at hrun
   simp [-List.all_eq_true, -setMany, at4, set4, hone, hsm, hstr, c_rewrite_Apply_w, hcp, hcpt, hcps, hcpu, hcpo, hfits, q0, q1, q3, q5, qu, c1, c2, c10, ga, gb, gc, gd, callOwn, hcl', hlen, h0, b1, b2, hby, ← hHH, hrun, hKb, hl4, k0, k1, k2, k3, k4, hus, hut, hum, huo, hz4, hsm2, hct]
end Go.AM.Spec
