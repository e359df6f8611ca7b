/-
  The parts of this proof that speak of the functions one by one.
-/
import Derived.Test.YtehbmajjoolcnaaGreatGpC
import Derived.Test.YtehbmajjoolcnaaGreatGpB
import Derived.Test.YtehbmajjoolcnaaGreatGpA
namespace Go.AM.Spec
set_option linter.unusedVariables false
set_option linter.unusedSimpArgs false
set_option maxHeartbeats 4000000
set_option maxRecDepth 10000
def rrows (R : Mp) : List (List V) := R.map fun x => [V.str x.1, .int .i64 x.2]
def nrows (l : List Nm) : List (List V) := l.map fun x => [V.str x]
theorem rkind_loop (R : Mp) (hl : R.length ≤ 1000000) (s : Nm) (k : List Item) (X : Option (V × Heap))
    (hret : ∀ φ', Fr.get φ' 4 = .int .i64 (R.get s) → retK k φ' [] = X) (hexit : ∀ φ', R.get s = 0 → M (eval tbl noExt) k φ' [] = X) :
    ∀ (l : Mp) (i : Nat) (φ : Fr), R.drop i = l → R.get s = l.get s → Fr.get φ 0 = .sl 2 (rrows R) → Fr.get φ 1 = .str s → Fr.get φ 5 = .int .i64 i →
      M (eval tbl noExt) (.code l_r19_kind_0 :: .blk 0 :: k) φ [] = X := by
  intro l
  induction l with
  | nil =>
    intro i φ hd e1 h0 h1 h5
    have hi : R.length ≤ i := by rw [← Nat.sub_eq_zero_iff_le, ← List.length_drop, hd]; rfl
    have hlt : ¬ ((i : Int) < R.length) := by omega
    have hrl : (rrows R).length = R.length := by simp [rrows]
    rw [l_r19_kind_0, M_loop, ← l_r19_kind_0]
    simp [b_r19_kind_0, h0, h1, h5, hrl, hlt]
    exact hexit _ e1
  | cons x l ih =>
    intro i φ hd e1 h0 h1 h5
    have hi : i < R.length := by
      have : (R.drop i).length = l.length + 1 := by rw [hd]; rfl
      rw [List.length_drop] at this; omega
    have hlt : (i : Int) < R.length := by omega
    have hx : R[i]? = some x := by rw [← List.head?_drop, hd]; rfl
    have hd1 : R.drop (i + 1) = l := by rw [← List.tail_drop, hd]; rfl
    have hr : (rrows R)[i]? = some [.str x.1, .int .i64 x.2] := by rw [rrows, List.getElem?_map, hx]; rfl
    have hr2 : ∀ h, (rrows R)[i]'h = [.str x.1, .int .i64 x.2] := fun h => by rw [List.getElem?_eq_getElem h] at hr; exact Option.some.inj hr
    have hrl : (rrows R).length = R.length := by simp [rrows]
    have hw : IntKind.i64.wrap ((i : Int) + 1) = ((i + 1 : Nat) : Int) := by rw [w64 (by omega) (by omega)]; rfl
    rw [l_r19_kind_0, M_loop, ← l_r19_kind_0]
    by_cases hs : x.1 = s
    · simp [b_r19_kind_0, h0, h1, h5, hrl, hlt, hi, hr, hr2, hs]
      refine hret _ ?_
      rw [e1]; simp [Mp.get, hs]
    · simp [b_r19_kind_0, h0, h1, h5, hrl, hlt, hi, hr, hr2, hs, hw]
      refine ih (i + 1) _ hd1 (by rw [e1, Mp.get, if_neg hs]) ?_ ?_ ?_
      · simp [h0]
      · simp [h1]
      · simp
theorem rkind_eq (R : Mp) (hl : R.length ≤ 1000000) (s : Nm) : eval tbl noExt n_r19_kind [.sl 2 (rrows R), .str s] [] = some (.int .i64 (R.get s), []) := by
  rw [eval_M rfl rfl t_r19_kind rfl]
  simp [c_r19_kind]
  refine rkind_loop R hl s _ _ ?_ ?_ R 0 _ rfl rfl ?_ ?_ ?_
  · intro φ' h4; simp [h4]
  · intro φ' h0; simp [r_r19_kind_0, h0]
  all_goals simp
theorem rhas_loop (R : List Nm) (hl : R.length ≤ 1000000) (s : Nm) (k : List Item) (X : Option (V × Heap))
    (hret : ∀ φ', hasN R s = true → Fr.get φ' 4 = .bool true → retK k φ' [] = X) (hexit : ∀ φ', hasN R s = false → M (eval tbl noExt) k φ' [] = X) :
    ∀ (l : List Nm) (i : Nat) (φ : Fr), R.drop i = l → hasN R s = hasN l s → Fr.get φ 0 = .sl 1 (nrows R) → Fr.get φ 1 = .str s → Fr.get φ 5 = .int .i64 i →
      M (eval tbl noExt) (.code l_r19_has_0 :: .blk 0 :: k) φ [] = X := by
  intro l
  induction l with
  | nil =>
    intro i φ hd e1 h0 h1 h5
    have hi : R.length ≤ i := by rw [← Nat.sub_eq_zero_iff_le, ← List.length_drop, hd]; rfl
    have hlt : ¬ ((i : Int) < R.length) := by omega
    have hrl : (nrows R).length = R.length := by simp [nrows]
    rw [l_r19_has_0, M_loop, ← l_r19_has_0]
    simp [b_r19_has_0, h0, h1, h5, hrl, hlt]
    exact hexit _ e1
  | cons x l ih =>
    intro i φ hd e1 h0 h1 h5
    have hi : i < R.length := by
      have : (R.drop i).length = l.length + 1 := by rw [hd]; rfl
      rw [List.length_drop] at this; omega
    have hlt : (i : Int) < R.length := by omega
    have hx : R[i]? = some x := by rw [← List.head?_drop, hd]; rfl
    have hd1 : R.drop (i + 1) = l := by rw [← List.tail_drop, hd]; rfl
    have hr : (nrows R)[i]? = some [.str x] := by rw [nrows, List.getElem?_map, hx]; rfl
    have hr2 : ∀ h, (nrows R)[i]'h = [.str x] := fun h => by rw [List.getElem?_eq_getElem h] at hr; exact Option.some.inj hr
    have hrl : (nrows R).length = R.length := by simp [nrows]
    have hw : IntKind.i64.wrap ((i : Int) + 1) = ((i + 1 : Nat) : Int) := by rw [w64 (by omega) (by omega)]; rfl
    rw [l_r19_has_0, M_loop, ← l_r19_has_0]
    by_cases hs : x = s
    · simp [b_r19_has_0, h0, h1, h5, hrl, hlt, hi, hr, hr2, hs]
      refine hret _ ?_ ?_
      · rw [e1]; simp [hasN, hs]
      · simp
    · simp [b_r19_has_0, h0, h1, h5, hrl, hlt, hi, hr, hr2, hs, hw]
      refine ih (i + 1) _ hd1 (by rw [e1]; simp [hasN, hs]) ?_ ?_ ?_
      · simp [h0]
      · simp [h1]
      · simp
theorem rhas_eq (R : List Nm) (hl : R.length ≤ 1000000) (s : Nm) : eval tbl noExt n_r19_has [.sl 1 (nrows R), .str s] [] = some (.bool (hasN R s), []) := by
  rw [eval_M rfl rfl t_r19_has rfl]
  simp [c_r19_has]
  refine rhas_loop R hl s _ _ ?_ ?_ R 0 _ rfl rfl ?_ ?_ ?_
  · intro φ' h h4; simp [h4, h]
  · intro φ' h0; simp [r_r19_has_0, h0]
  all_goals simp
theorem want_eq (ok : Bool) (k : Int) (H : Heap) : eval tbl noExt n_r19_want [.bool ok, .int .i64 k] H = some (.tup [.int .i64 (tyIs ok k).1, .int .i64 (tyIs ok k).2], H) := by
  rw [eval_M rfl rfl t_r19_want rfl]
  cases ok <;> simp [c_r19_want, tyIs]
def wantR (op : Int) (i : Nat) : Int := if op = 12 then 0 else if op = 13 ∨ op = 18 then 3 else if (op = 3 ∨ op = 5) ∧ i = 1 then 1 else 2
theorem wantR_wants (op : Int) (i : Nat) (k : Int) : (wantR op i ≠ 0 ∧ wantR op i ≠ k) ↔ wants op i k = false := by
  unfold wantR wants
  repeat' split
  all_goals simp
  all_goals omega
theorem rwants_eq (op : Int) (i : Nat) (H : Heap) : eval tbl noExt n_r19_wants [.int .i64 op, .int .i64 i] H = some (.int .i64 (wantR op i), H) := by
  rw [eval_M rfl rfl t_r19_wants rfl]
  by_cases h1 : op = 12
  · simp [c_r19_wants, wantR, h1]
  by_cases h2 : op = 13
  · simp [c_r19_wants, wantR, h1, h2]
  by_cases h3 : op = 18
  · simp [c_r19_wants, wantR, h1, h2, h3]
  by_cases h4 : op = 3
  · by_cases h5 : i = 1
    · simp [c_r19_wants, wantR, h1, h2, h3, h4, h5]
    · have h5' : ¬ (i : Int) = 1 := by omega
      simp [c_r19_wants, wantR, h1, h2, h3, h4, h5, h5']
  by_cases h6 : op = 5
  · by_cases h5 : i = 1
    · simp [c_r19_wants, wantR, h1, h2, h3, h4, h5, h6]
    · have h5' : ¬ (i : Int) = 1 := by omega
      simp [c_r19_wants, wantR, h1, h2, h3, h4, h5, h5', h6]
  simp [c_r19_wants, wantR, h1, h2, h3, h4, h6]
def RtOK (R : Mp) (e : Ex) : Prop := eval tbl noExt n_r19_Type [.agg e.cells, .sl 2 (rrows R)] [] = some (.tup [.int .i64 (e.ty R.get).1, .int .i64 (e.ty R.get).2], [])
theorem rtype_loop (R : Mp) (op n : Int) (s : Nm) (x : List Ex) (hl : x.length ≤ 2) (hx : ∀ e ∈ x, RtOK R e) (k : List Item) (X : Option (V × Heap))
    (hret : ∀ φ' K, (Ex.tys R.get x).2 ≠ 0 → Fr.get φ' 4 = .int .i64 0 → Fr.get φ' 5 = .int .i64 (Ex.tys R.get x).2 → retK k φ' K = X)
    (hexit : ∀ φ', (Ex.tys R.get x).2 = 0 → Fr.get φ' 1 = .sl 2 (rrows R) → Fr.get φ' 2 = .ptr 0 0 → Fr.get φ' 6 = .ptr 1 0 → M (eval tbl noExt) k φ' [some [.int .i64 op, .int .i64 n, .str s, .sl 4 (Ex.rows x)], some (kpad (Ex.tys R.get x).1)] = X) :
    ∀ (l : List Ex) (i : Nat) (D : List Int) (φ : Fr), x.drop i = l → D.length = i → (Ex.tys R.get x).2 = (Ex.tys R.get l).2 → ((Ex.tys R.get l).2 = 0 → (Ex.tys R.get x).1 = D ++ (Ex.tys R.get l).1) →
      Fr.get φ 1 = .sl 2 (rrows R) → Fr.get φ 2 = .ptr 0 0 → Fr.get φ 6 = .ptr 1 0 → Fr.get φ 7 = .int .i64 i →
      M (eval tbl noExt) (.code l_r19_Type_0 :: .blk 0 :: k) φ [some [.int .i64 op, .int .i64 n, .str s, .sl 4 (Ex.rows x)], some (kpad D)] = X := by
  intro l
  induction l with
  | nil =>
    intro i D φ hd hD e1 e2 h1 h2 h6 h7
    have hi : x.length ≤ i := by rw [← Nat.sub_eq_zero_iff_le, ← List.length_drop, hd]; rfl
    have hlt : ¬ ((i : Int) < x.length) := by omega
    have hrl : (Ex.rows x).length = x.length := by rw [Ex.rows_eq]; simp
    have e2 := e2 rfl
    rw [show (Ex.tys R.get []).1 = [] from rfl, List.append_nil] at e2
    rw [l_r19_Type_0, M_loop, ← l_r19_Type_0]
    simp [b_r19_Type_0, h1, h2, h6, h7, hrl, hlt]
    subst e2
    refine hexit _ ?_ ?_ ?_ ?_
    · rw [e1]; rfl
    · simp [h1]
    · simp [h2]
    · simp [h6]
  | cons e l ih =>
    intro i D φ hd hD e1 e2 h1 h2 h6 h7
    have hi : i < x.length := by
      have : (x.drop i).length = l.length + 1 := by rw [hd]; rfl
      rw [List.length_drop] at this; omega
    have hlt : (i : Int) < x.length := by omega
    have hxe : x[i]? = some e := by rw [← List.head?_drop, hd]; rfl
    have hmem : e ∈ x := List.mem_of_getElem? hxe
    have hd1 : x.drop (i + 1) = l := by rw [← List.tail_drop, hd]; rfl
    have hr : (Ex.rows x)[i]? = some e.cells := by rw [Ex.rows_eq, List.getElem?_map, hxe]; rfl
    have hr2 : ∀ h, (Ex.rows x)[i]'h = e.cells := fun h => by rw [List.getElem?_eq_getElem h] at hr; exact Option.some.inj hr
    have hrl : (Ex.rows x).length = x.length := by rw [Ex.rows_eq]; simp
    have hw : IntKind.i64.wrap ((i : Int) + 1) = ((i + 1 : Nat) : Int) := by rw [w64 (by omega) (by omega)]; rfl
    have hc := hx e hmem
    unfold RtOK at hc
    have hset : ∀ v : Int, (kpad D).set i (.int .i64 v) = kpad (D ++ [v]) := by
      intro v
      subst hD
      match D, hi with
      | [], _ => rfl
      | [a], _ => rfl
      | a :: b :: r, h => simp at h; omega
    have q1 : (Ex.tys R.get (e :: l)) = if (e.ty R.get).2 ≠ 0 then ([], (e.ty R.get).2) else ((e.ty R.get).1 :: (Ex.tys R.get l).1, (Ex.tys R.get l).2) := by rw [Ex.tys]
    obtain ⟨op', m', s', y⟩ := e
    generalize (Ex.mk op' m' s' y).ty R.get = z at q1 hc
    obtain ⟨z1, z2⟩ := z
    simp only [Ex.cells] at hr hr2 hc
    have hset := hset z1
    generalize hkp : kpad D = kp at hset
    have hkl : kp.length = 2 := by rw [← hkp]; rfl
    have hi2 : (i : Int) < 2 := by omega
    have hi3 : i < kp.length := by omega
    have hi4 : i ≤ 1 := by omega
    rw [l_r19_Type_0, M_loop, ← l_r19_Type_0]
    by_cases he : z2 = 0
    · subst he
      rw [if_neg (by simp)] at q1
      simp [b_r19_Type_0, h1, h2, h6, h7, hlt, hi, hr, hr2, hrl, hw, hc, hset, hkl, hi2, hi3, hi4]
      refine ih (i + 1) (D ++ [z1]) _ hd1 (by simp [hD]) (by rw [e1, q1]) (fun h => ?_) ?_ ?_ ?_ ?_
      · rw [e2 (by rw [q1]; exact h), q1]; simp
      · simp [h1]
      · simp [h2]
      · simp [h6]
      · simp
    · rw [if_pos he] at q1
      simp [b_r19_Type_0, h1, h2, h6, h7, hlt, hi, hr, hr2, hrl, hw, he, hc, hset, hkl, hi2, hi3, hi4]
      refine hret _ _ (by rw [e1, q1]; exact he) ?_ ?_
      · simp
      · rw [e1, q1]; simp
theorem rtype_step (R : Mp) (hR : R.length ≤ 1000000) (op n : Int) (s : Nm) (x : List Ex) (hl : x.length ≤ 2) (hx : ∀ e ∈ x, RtOK R e) : RtOK R (.mk op n s x) := by
  have hk := rkind_eq R hR s
  have hcl : (Ex.rows x).length = x.length := by rw [Ex.rows_eq]; simp
  unfold RtOK
  have hz : (Ex.mk op n s x).ty R.get = if (Ex.tys R.get x).2 ≠ 0 then (0, (Ex.tys R.get x).2) else tyOp R.get op s ((Ex.tys R.get x).1.getD 0 0) ((Ex.tys R.get x).1.getD 1 0) := by rw [Ex.ty]
  generalize (Ex.mk op n s x).ty R.get = z at hz ⊢
  simp only [Ex.cells]
  rw [eval_M rfl rfl t_r19_Type rfl]
  simp [c_r19_Type]
  refine rtype_loop R op n s x hl hx _ _ ?_ ?_ x 0 [] _ rfl rfl rfl (fun _ => rfl) ?_ ?_ ?_ ?_
  · intro φ' K he h4 h5
    rw [if_pos he] at hz
    subst hz
    simp [h4, h5]
  · intro φ' he h1 h2 h6
    rw [if_neg (by simp [he])] at hz
    generalize (Ex.tys R.get x).1 = K at hz ⊢
    simp only [kpad]
    generalize K.getD 0 0 = a at hz ⊢
    generalize K.getD 1 0 = b at hz ⊢
    subst hz
    have bd : ∀ u v : Int, (u == v) = decide (u = v) := fun u v => by by_cases h : u = v <;> simp [h]
    have bn : ∀ u v : Int, (u != v) = decide (u ≠ v) := fun u v => by by_cases h : u = v <;> simp [h]
    unfold tyOp
    simp only [bd, bn]
    clear hx
    by_cases c1 : op = 1
    · simp [r_r19_Type_0, h1, h2, h6, c1]
    by_cases c2 : op = 2
    · simp [r_r19_Type_0, h1, h2, h6, c1, c2]
    by_cases c3 : op = 3
    · simp [r_r19_Type_0, h1, h2, h6, c1, c2, c3]
    by_cases c4 : op = 4
    · by_cases h0 : R.get s = 0
      · rw [h0] at hk
        simp [r_r19_Type_0, h1, h2, h6, c1, c2, c3, c4, hk, h0]
      · simp [r_r19_Type_0, h1, h2, h6, c1, c2, c3, c4, hk, h0]
    by_cases c5 : op = 5
    · simp [r_r19_Type_0, h1, h2, h6, c1, c2, c3, c4, c5, want_eq]
    by_cases c6 : op = 6
    · simp [r_r19_Type_0, h1, h2, h6, c1, c2, c3, c4, c5, c6, want_eq]
    by_cases c7 : op = 7
    · simp [r_r19_Type_0, h1, h2, h6, c1, c2, c3, c4, c5, c6, c7, want_eq]
    by_cases c8 : op = 8
    · simp [r_r19_Type_0, h1, h2, h6, c1, c2, c3, c4, c5, c6, c7, c8, want_eq]
    by_cases c9 : op = 9
    · by_cases ab : a = b
      · simp [r_r19_Type_0, h1, h2, h6, c1, c2, c3, c4, c5, c6, c7, c8, c9, want_eq, ab]
      · simp [r_r19_Type_0, h1, h2, h6, c1, c2, c3, c4, c5, c6, c7, c8, c9, want_eq, ab]
    by_cases c10 : op = 10
    · by_cases ab : a = b
      · subst ab
        by_cases a1 : a = 1
        · simp [r_r19_Type_0, h1, h2, h6, c1, c2, c3, c4, c5, c6, c7, c8, c9, c10, want_eq, a1]
        · simp [r_r19_Type_0, h1, h2, h6, c1, c2, c3, c4, c5, c6, c7, c8, c9, c10, want_eq, a1]
      · by_cases a1 : a = 1
        · have b1 : ¬ b = 1 := by omega
          subst a1
          simp [r_r19_Type_0, h1, h2, h6, c1, c2, c3, c4, c5, c6, c7, c8, c9, c10, want_eq, ab, b1]
        · simp [r_r19_Type_0, h1, h2, h6, c1, c2, c3, c4, c5, c6, c7, c8, c9, c10, want_eq, ab, a1]
    by_cases c11 : op = 11
    · by_cases ab : a = b
      · simp [r_r19_Type_0, h1, h2, h6, c1, c2, c3, c4, c5, c6, c7, c8, c9, c10, c11, want_eq, ab]
      · simp [r_r19_Type_0, h1, h2, h6, c1, c2, c3, c4, c5, c6, c7, c8, c9, c10, c11, want_eq, ab]
    by_cases c12 : op = 12
    · by_cases ab : a = b
      · simp [r_r19_Type_0, h1, h2, h6, c1, c2, c3, c4, c5, c6, c7, c8, c9, c10, c11, c12, want_eq, ab]
      · simp [r_r19_Type_0, h1, h2, h6, c1, c2, c3, c4, c5, c6, c7, c8, c9, c10, c11, c12, want_eq, ab]
    by_cases ab : a = b
    · subst ab
      by_cases a1 : a = 3
      · simp [r_r19_Type_0, h1, h2, h6, c1, c2, c3, c4, c5, c6, c7, c8, c9, c10, c11, c12, want_eq, a1]
      · simp [r_r19_Type_0, h1, h2, h6, c1, c2, c3, c4, c5, c6, c7, c8, c9, c10, c11, c12, want_eq, a1]
    · by_cases a1 : a = 3
      · have b1 : ¬ b = 3 := by omega
        subst a1
        simp [r_r19_Type_0, h1, h2, h6, c1, c2, c3, c4, c5, c6, c7, c8, c9, c10, c11, c12, want_eq, ab, b1]
      · simp [r_r19_Type_0, h1, h2, h6, c1, c2, c3, c4, c5, c6, c7, c8, c9, c10, c11, c12, want_eq, ab, a1]
  all_goals simp [kpad]
theorem rtype_ok (R : Mp) (hR : R.length ≤ 1000000) : ∀ (n : Nat) (e : Ex), e.size ≤ n → e.thin = true → RtOK R e := by
  intro n
  induction n with
  | zero => intro e h; cases e; simp only [Ex.size] at h; omega
  | succ n ih =>
    intro e h ht
    obtain ⟨op, m, s, x⟩ := e
    simp only [Ex.size] at h
    simp only [Ex.thin, Bool.and_eq_true, decide_eq_true_eq] at ht
    exact rtype_step R hR op m s x ht.1 fun e he => ih e (by have := Ex.sizes_mem he; omega) (Ex.thins_mem ht.2 he)
end Go.AM.Spec
namespace Go.AM.Spec
set_option linter.unusedVariables false
set_option linter.unusedSimpArgs false
set_option maxHeartbeats 4000000
set_option maxRecDepth 10000
theorem tyIs_nz {ok : Bool} {k : Int} (hk : k ≠ 0) (h : (tyIs ok k).2 = 0) : (tyIs ok k).1 ≠ 0 := by
  cases ok with
  | true => exact hk
  | false => simp [tyIs] at h
theorem Ex.ok_nz (ρ : Env) : ∀ (n : Nat) (e : Ex), e.size ≤ n → ∀ d, e.ok d = true → (e.ty ρ).2 = 0 → (e.ty ρ).1 ≠ 0 := by
  intro n
  induction n with
  | zero => intro e h; cases e; simp only [Ex.size] at h; omega
  | succ n ih =>
    intro e h d hok h0
    obtain ⟨op, m, s, x⟩ := e
    simp only [Ex.size] at h
    rw [Ex.ty] at h0 ⊢
    by_cases hx : (Ex.tys ρ x).2 ≠ 0
    · rw [if_pos hx] at h0; exact absurd h0 hx
    rw [if_neg hx] at h0 ⊢
    unfold tyOp at h0 ⊢
    by_cases c1 : op = 1
    · rw [if_pos c1]; simp
    rw [if_neg c1] at h0 ⊢
    by_cases c2 : op = 2
    · rw [if_pos c2]; simp
    rw [if_neg c2] at h0 ⊢
    by_cases c3 : op = 3
    · rw [if_pos c3]; simp
    rw [if_neg c3] at h0 ⊢
    by_cases c4 : op = 4
    · rw [if_pos c4] at h0 ⊢
      by_cases z : ρ s = 0
      · rw [if_pos z] at h0; simp at h0
      · rw [if_neg z]; exact z
    rw [if_neg c4] at h0 ⊢
    by_cases c5 : op = 5
    · rw [if_pos c5] at h0 ⊢; exact tyIs_nz (by omega) h0
    rw [if_neg c5] at h0 ⊢
    by_cases c6 : op = 6
    · rw [if_pos c6] at h0 ⊢; exact tyIs_nz (by omega) h0
    rw [if_neg c6] at h0 ⊢
    by_cases c7 : op = 7
    · rw [if_pos c7] at h0 ⊢; exact tyIs_nz (by omega) h0
    rw [if_neg c7] at h0 ⊢
    by_cases c8 : op = 8
    · rw [if_pos c8] at h0 ⊢; exact tyIs_nz (by omega) h0
    rw [if_neg c8] at h0 ⊢
    by_cases c9 : op = 9
    · rw [if_pos c9] at h0 ⊢
      subst c9
      rw [Ex.ok, show parts 9 = some 2 from rfl] at hok
      simp only [Bool.and_eq_true, decide_eq_true_eq] at hok
      obtain ⟨⟨⟨_, hlen⟩, _⟩, hoks⟩ := hok
      match x, hlen with
      | [u, v], _ =>
        simp only [Ex.oks, Bool.and_eq_true] at hoks
        simp only [Ex.sizes] at h
        have hu : (u.ty ρ).2 = 0 := by
          by_cases hu : (u.ty ρ).2 = 0
          · exact hu
          · rw [Ex.tys, if_pos hu] at hx
            simp only [ne_eq, Decidable.not_not] at hx; exact hx
        have hun := ih u (by omega) _ hoks.1 hu
        have e1 : ((Ex.tys ρ [u, v]).1.getD 0 0) = (u.ty ρ).1 := by rw [Ex.tys, if_neg (by simp [hu])]; rfl
        rw [e1] at h0 ⊢
        exact tyIs_nz hun h0
    rw [if_neg c9] at h0 ⊢
    by_cases c10 : op = 10
    · rw [if_pos c10] at h0 ⊢; exact tyIs_nz (by omega) h0
    rw [if_neg c10] at h0 ⊢
    by_cases c11 : op = 11
    · rw [if_pos c11] at h0 ⊢; exact tyIs_nz (by omega) h0
    rw [if_neg c11] at h0 ⊢
    by_cases c12 : op = 12
    · rw [if_pos c12] at h0 ⊢; exact tyIs_nz (by omega) h0
    rw [if_neg c12] at h0 ⊢
    exact tyIs_nz (by omega) h0
def NZ (R : Mp) : Prop := ∀ x ∈ R, x.2 ≠ 0
theorem get_snoc {R : Mp} (h : NZ R) (s : Nm) (k : Int) : Mp.get (R ++ [(s, k)]) = fun x => if R.get x ≠ 0 then R.get x else if x = s then k else 0 := by
  funext t
  induction R with
  | nil =>
    simp only [List.nil_append, Mp.get]
    by_cases e : s = t
    · simp [e]
    · have e' : ¬ t = s := fun h => e h.symm
      simp [e, e']
  | cons x R ih =>
    have hx : x.2 ≠ 0 := h x (by simp)
    simp only [List.cons_append, Mp.get, ih (fun y hy => h y (by simp [hy]))]
    by_cases e : x.1 = t
    · simp [e, hx]
    · simp [e]
theorem NZ.snoc {R : Mp} (h : NZ R) {s : Nm} {k : Int} (hk : k ≠ 0) : NZ (R ++ [(s, k)]) := fun x hx => by
  rw [List.mem_append, List.mem_singleton] at hx
  rcases hx with hx | rfl
  · exact h x hx
  · exact hk
theorem let_nz {ρ : Env} {s : Nm} {n : Int} {e : List Ex} {b c : List Sm} {g : Bool} {d : Nat} {no : Int} (h : (Sm.mk 12 s n e b c g).ok d = true) (h0 : (exprsF ρ 12 no 0 e 0 (0, 0)).2 = (0, 0)) : (exprsF ρ 12 no 0 e 0 (0, 0)).1 ≠ 0 := by
  simp only [Sm.ok, Bool.and_eq_true] at h
  have hs := h.2.1
  rw [shapeOk, show exprs 12 = some 1 from rfl] at hs
  simp only [Bool.and_eq_true, decide_eq_true_eq] at hs
  obtain ⟨hlen, _, _, _, _, _, _, _, hoks⟩ := hs
  match e, hlen with
  | [u], _ =>
    simp only [Ex.oks, Bool.and_eq_true] at hoks
    simp only [exprsF] at h0 ⊢
    by_cases hu : (u.ty ρ).2 ≠ 0
    · rw [if_pos hu, failF_new] at h0
      exact absurd (congrArg Prod.fst h0) hu
    · exact Ex.ok_nz ρ _ u (Nat.le_refl _) _ hoks.1 (by simpa using hu)
theorem rstmt_loop (R : Mp) (hR : R.length ≤ 100000) (names : List Nm) (op n : Int) (s : Nm) (x : List Ex) (b c : List Sm) (g : Bool) (no : Int) (hx : Ex.thins x = true) (hxl : x.length ≤ 1000000) (k : List Item) (X : Option (V × Heap))
    (hret : ∀ φ', (exprsF R.get op no 0 x 0 (0, 0)).2.1 ≠ 0 → Fr.get φ' 8 = .own 2 [] → Fr.get φ' 9 = .ptr 1 0 →
      retK k φ' [some (Sm.mk op s n x b c g).cells, some [.int .i64 (exprsF R.get op no 0 x 0 (0, 0)).2.1, .int .i64 (exprsF R.get op no 0 x 0 (0, 0)).2.2]] = X)
    (hexit : ∀ φ', (exprsF R.get op no 0 x 0 (0, 0)).2 = (0, 0) → Fr.get φ' 1 = .int .i64 no → Fr.get φ' 2 = .sl 2 (rrows R) → Fr.get φ' 3 = .sl 1 (nrows names) → Fr.get φ' 4 = .ptr 0 0 → Fr.get φ' 9 = .ptr 1 0 → Fr.get φ' 10 = .int .i64 (exprsF R.get op no 0 x 0 (0, 0)).1 →
      M (eval tbl noExt) k φ' [some (Sm.mk op s n x b c g).cells, some [.int .i64 0, .int .i64 0]] = X) :
    ∀ (l : List Ex) (i : Nat) (last : Int) (φ : Fr), x.drop i = l → exprsF R.get op no 0 x 0 (0, 0) = exprsF R.get op no i l last (0, 0) →
      Fr.get φ 1 = .int .i64 no → Fr.get φ 2 = .sl 2 (rrows R) → Fr.get φ 3 = .sl 1 (nrows names) → Fr.get φ 4 = .ptr 0 0 → Fr.get φ 9 = .ptr 1 0 → Fr.get φ 10 = .int .i64 last → Fr.get φ 11 = .int .i64 i →
      M (eval tbl noExt) (.code l_r19_stmt_0 :: .blk 0 :: k) φ [some (Sm.mk op s n x b c g).cells, some [.int .i64 0, .int .i64 0]] = X := by
  have hrl : (Ex.rows x).length = x.length := by rw [Ex.rows_eq]; simp
  simp only [Sm.cells] at hret hexit ⊢
  intro l
  induction l with
  | nil =>
    intro i last φ hd e1 h1 h2 h3 h4 h9 h10 h11
    have hi : x.length ≤ i := by rw [← Nat.sub_eq_zero_iff_le, ← List.length_drop, hd]; rfl
    have hlt : ¬ ((i : Int) < x.length) := by omega
    rw [exprsF] at e1
    rw [l_r19_stmt_0, M_loop, ← l_r19_stmt_0]
    simp [b_r19_stmt_0, h1, h2, h3, h4, h9, h10, h11, hrl, hlt]
    refine hexit _ (by rw [e1]) ?_ ?_ ?_ ?_ ?_ ?_
    · simp [h1]
    · simp [h2]
    · simp [h3]
    · simp [h4]
    · simp [h9]
    · rw [e1]; simp [h10]
  | cons e l ih =>
    intro i last φ hd e1 h1 h2 h3 h4 h9 h10 h11
    have hi : i < x.length := by
      have : (x.drop i).length = l.length + 1 := by rw [hd]; rfl
      rw [List.length_drop] at this; omega
    have hlt : (i : Int) < x.length := by omega
    have hxe : x[i]? = some e := by rw [← List.head?_drop, hd]; rfl
    have hmem : e ∈ x := List.mem_of_getElem? hxe
    have hd1 : x.drop (i + 1) = l := by rw [← List.tail_drop, hd]; rfl
    have hr : (Ex.rows x)[i]? = some e.cells := by rw [Ex.rows_eq, List.getElem?_map, hxe]; rfl
    have hr2 : ∀ h, (Ex.rows x)[i]'h = e.cells := fun h => by rw [List.getElem?_eq_getElem h] at hr; exact Option.some.inj hr
    have hw : IntKind.i64.wrap ((i : Int) + 1) = ((i + 1 : Nat) : Int) := by rw [w64 (by omega) (by omega)]; rfl
    have hc := rtype_ok R (by omega) e.size e (Nat.le_refl _) (Ex.thins_mem hx hmem)
    unfold RtOK at hc
    have hrw := rwants_eq op i []
    have hwr := wantR_wants op i (e.ty R.get).1
    rw [exprsF] at e1
    obtain ⟨op', m', s', y⟩ := e
    generalize (Ex.mk op' m' s' y).ty R.get = z at e1 hc hwr
    obtain ⟨z1, z2⟩ := z
    simp only [Ex.cells] at hr hr2 hc
    simp only at e1 hwr
    generalize hwv : wantR op i = wv at hrw hwr
    rw [l_r19_stmt_0, M_loop, ← l_r19_stmt_0]
    by_cases hz : z2 = 0
    · subst hz
      rw [if_neg (by simp)] at e1
      by_cases hwt : wants op i z1 = true
      · rw [if_pos hwt] at e1
        have hnw : ¬ (wv ≠ 0 ∧ wv ≠ z1) := fun h => by rw [hwr, hwt] at h; cases h
        by_cases w0 : wv = 0
        · subst w0
          simp [b_r19_stmt_0, h1, h2, h3, h4, h9, h10, h11, hrl, hlt, hi, hr, hr2, hw, hc, hrw]
          refine ih (i + 1) _ _ hd1 e1 ?_ ?_ ?_ ?_ ?_ ?_ ?_
          · simp [h1]
          · simp [h2]
          · simp [h3]
          · simp [h4]
          · simp [h9]
          · simp
          · simp
        · have w1 : wv = z1 := Decidable.byContradiction fun h => hnw ⟨w0, h⟩
          subst w1
          simp [b_r19_stmt_0, h1, h2, h3, h4, h9, h10, h11, hrl, hlt, hi, hr, hr2, hw, hc, hrw, w0]
          refine ih (i + 1) _ _ hd1 e1 ?_ ?_ ?_ ?_ ?_ ?_ ?_
          · simp [h1]
          · simp [h2]
          · simp [h3]
          · simp [h4]
          · simp [h9]
          · simp
          · simp
      · rw [if_neg hwt, failF_new] at e1
        have hw2 := hwr.2 (by simpa using hwt)
        have e2 := exprsF_set R.get op no l (i + 1) z1 (11, no) (by simp)
        rw [← e1] at e2
        simp [b_r19_stmt_0, h1, h2, h3, h4, h9, h10, h11, hrl, hlt, hi, hr, hr2, hw, hc, hrw, hw2.1, hw2.2]
        rw [e2] at hret
        exact hret _ (by simp) (by simp) (by simp [h9])
    · rw [if_pos hz, failF_new] at e1
      have e2 := exprsF_set R.get op no l (i + 1) z1 (z2, no) (by simp [hz])
      rw [← e1] at e2
      simp [b_r19_stmt_0, h1, h2, h3, h4, h9, h10, h11, hrl, hlt, hi, hr, hr2, hw, hc, hz]
      rw [e2] at hret
      exact hret _ (by simpa using hz) (by simp) (by simp [h9])
end Go.AM.Spec
namespace Go.AM.Spec
set_option linter.unusedVariables false
set_option linter.unusedSimpArgs false
set_option maxHeartbeats 4000000
set_option maxRecDepth 10000
def BlRef (l : List Sm) : Prop := ∀ (R : Mp) (names : List Nm) (no : Int), NZ R → R.length + Sm.sizes l ≤ 50000 → names.length ≤ 50000 → 0 ≤ no → no + Sm.sizes l ≤ 1000000 →
  eval tbl noExt n_r19_block [.sl 7 (Sm.rows l), .int .i64 no, .sl 2 (rrows R), .sl 1 (nrows names)] [] = some (.agg [.int .i64 (Sm.rks (hasN names) R.get l no).1, .int .i64 (Sm.rks (hasN names) R.get l no).2], [])
def StRef (x : Sm) : Prop := ∀ (R : Mp) (names : List Nm) (no : Int), NZ R → R.length + x.size ≤ 50000 → names.length ≤ 50000 → 0 ≤ no → no + x.size ≤ 1000000 →
  ∃ R' v, (v = .sl 2 (rrows R') ∨ v = .own 2 (rrows R')) ∧ eval tbl noExt n_r19_stmt [.agg x.cells, .int .i64 no, .sl 2 (rrows R), .sl 1 (nrows names)] [] = some (.tup [v, .agg [.int .i64 (x.rk (hasN names) R.get no).2.1, .int .i64 (x.rk (hasN names) R.get no).2.2]], []) ∧
    ((x.rk (hasN names) R.get no).2.1 = 0 → R'.get = (x.rk (hasN names) R.get no).1 ∧ NZ R' ∧ R'.length ≤ R.length + 1)
theorem rstmt_step (op n : Int) (s : Nm) (x : List Ex) (b c : List Sm) (g : Bool) (d : Nat) (hok : (Sm.mk op s n x b c g).ok d = true) (hxl : x.length ≤ 1000) (hsb : Sm.sizes b ≤ 1000) (hb : BlRef b) (hc : BlRef c) : StRef (.mk op s n x b c g) := by
  intro R names no hNZ hR hN hn1 hn2
  simp only [Sm.size] at hR hn2
  have hthin := Sm.ok_thin hok
  have hfb := Sm.flats_sizes b
  have hbv := hb R names (no + 1) hNZ (by omega) hN (by omega) (by omega)
  have hcv := hc R names (no + 1 + (Sm.flats b).length) hNZ (by omega) hN (by omega) (by omega)
  have hcount := refCount_ok 1000 b hsb (Nat.le_refl _)
  have hkind := rkind_eq R (by omega) s
  have hhas := rhas_eq names (by omega) s
  have hw1 : IntKind.i64.wrap (no + 1) = no + 1 := by rw [w64 (by omega) (by omega)]
  have hw2 : IntKind.i64.wrap (no + 1 + (Sm.flats b).length) = no + 1 + (Sm.flats b).length := by rw [w64 (by omega) (by omega)]
  have hrrl : (rrows R).length = R.length := by simp [rrows]
  have hcap1 : 2 * (R.length + 1) * 24 ≤ 281474976710656 := by omega
  have hcap0 : 2 * R.length * 24 ≤ 281474976710656 := by omega
  have hplain : ∀ r ∈ rrows R, ∀ v ∈ r, V.plain v = true := by
    intro r hr v hv
    simp only [rrows, List.mem_map] at hr
    obtain ⟨y, _, rfl⟩ := hr
    simp at hv
    rcases hv with rfl | rfl <;> rfl
  have hpl : ((rrows R).all fun r => r.all V.plain) = true := by
    rw [List.all_eq_true]; intro r hr; rw [List.all_eq_true]; exact hplain r hr
  have hrk : (Sm.mk op s n x b c g).rk (hasN names) R.get no = if (exprsF R.get op no 0 x 0 (0, 0)).2.1 ≠ 0 then (R.get, (exprsF R.get op no 0 x 0 (0, 0)).2)
    else if op = 12 then
      if R.get s ≠ 0 ∧ R.get s ≠ (exprsF R.get op no 0 x 0 (0, 0)).1 then (R.get, (11, no)) else (fun y => if R.get y ≠ 0 then R.get y else if y = s then (exprsF R.get op no 0 x 0 (0, 0)).1 else 0, (0, 0))
    else if op = 15 ∧ hasN names s = false then (R.get, (9, no))
    else if (Sm.rks (hasN names) R.get b (no + 1)).1 ≠ 0 then (R.get, Sm.rks (hasN names) R.get b (no + 1)) else (R.get, Sm.rks (hasN names) R.get c (no + 1 + (Sm.flats b).length)) := by rw [Sm.rk]
  generalize (Sm.mk op s n x b c g).rk (hasN names) R.get no = z at hrk ⊢
  obtain ⟨Q, hQ⟩ : ∃ Q : Option (V × Heap) → Prop, ∀ o, Q o ↔ ∃ R' v, (v = .sl 2 (rrows R') ∨ v = .own 2 (rrows R')) ∧ o = some (.tup [v, .agg [.int .i64 z.2.1, .int .i64 z.2.2]], []) ∧ (z.2.1 = 0 → R'.get = z.1 ∧ NZ R' ∧ R'.length ≤ R.length + 1) := ⟨_, fun _ => Iff.rfl⟩
  rw [← hQ, eval_M rfl rfl t_r19_stmt rfl]
  have key : ∀ X, (X = X) → X = (M (eval tbl noExt) [.code l_r19_stmt_0, .blk 0, .code r_r19_stmt_0, .fin [.t 8, .cell 9 (some 2)] 0] [] []) → True := fun _ _ _ => trivial
  simp only [Sm.cells]
  simp [c_r19_stmt]
  have hloop := fun k φ X hret hexit h1 h2 h3 h4 h9 h10 h11 => rstmt_loop R (by omega) names op n s x b c g no hthin (by omega) k X hret hexit x 0 0 φ rfl rfl h1 h2 h3 h4 h9 h10 h11
  simp only [Sm.cells] at hloop
  have hz : ∀ (X : Option (V × Heap)), Q X → ∀ Y, Y = X → Q Y := fun X h Y e => e ▸ h
  by_cases hf : (exprsF R.get op no 0 x 0 (0, 0)).2.1 ≠ 0
  · rw [if_pos hf] at hrk
    refine hz _ ?_ _ (hloop _ _ (some (.tup [.sl 2 [], .agg [.int .i64 z.2.1, .int .i64 z.2.2]], [])) ?_ ?_ ?_ ?_ ?_ ?_ ?_ ?_ ?_)
    · rw [hQ]
      exact ⟨[], _, .inl rfl, rfl, fun h => by rw [hrk] at h; exact absurd h hf⟩
    · intro φ' _ h8 h9
      rw [hrk]
      simp [h8, h9]
    · intro φ' h0
      rw [h0] at hf; simp at hf
    all_goals simp
  · have hf0 : (exprsF R.get op no 0 x 0 (0, 0)).2 = (0, 0) := (exprsF_ok R.get op no x 0 0 (0, 0) (.inl rfl)).resolve_right hf
    rw [if_neg hf] at hrk
    by_cases h12 : op = 12
    · rw [if_pos h12] at hrk
      subst h12
      have hnz := let_nz hok hf0
      generalize hlast : (exprsF R.get 12 no 0 x 0 (0, 0)).1 = last at hrk hloop hnz
      by_cases hold : R.get s ≠ 0 ∧ R.get s ≠ last
      · rw [if_pos hold] at hrk
        refine hz _ ?_ _ (hloop _ _ (some (.tup [.sl 2 [], .agg [.int .i64 z.2.1, .int .i64 z.2.2]], [])) ?_ ?_ ?_ ?_ ?_ ?_ ?_ ?_ ?_)
        · rw [hQ]
          exact ⟨[], _, .inl rfl, rfl, fun h => by rw [hrk] at h; simp at h⟩
        · intro φ' h; exact absurd h hf
        · intro φ' _ h1 h2 h3 h4 h9 h10
          rw [hrk]
          simp [r_r19_stmt_0, h1, h2, h3, h4, h9, h10, hkind, hold.1, hold.2]
        all_goals simp
      · rw [if_neg hold] at hrk
        refine hz _ ?_ _ (hloop _ _ (some (.tup [.sl 2 (rrows (R ++ [(s, last)])), .agg [.int .i64 z.2.1, .int .i64 z.2.2]], [])) ?_ ?_ ?_ ?_ ?_ ?_ ?_ ?_ ?_)
        · rw [hQ]
          exact ⟨R ++ [(s, last)], _, .inl rfl, rfl, fun _ => by rw [hrk]; exact ⟨get_snoc hNZ s last, hNZ.snoc hnz, by simp⟩⟩
        · intro φ' h; exact absurd h hf
        · intro φ' _ h1 h2 h3 h4 h9 h10
          have hrs : rrows (R ++ [(s, last)]) = rrows R ++ [[.str s, .int .i64 last]] := by simp [rrows]
          rw [hrk, hrs]
          by_cases ho : R.get s = 0
          · rw [ho] at hkind
            simp [r_r19_stmt_0, h1, h2, h3, h4, h9, h10, hkind, ho, hrrl, hcap0, hcap1, hpl, -List.all_eq_true]
          · have ho2 : R.get s = last := Decidable.byContradiction fun h => hold ⟨ho, h⟩
            rw [ho2] at hkind ho
            simp [r_r19_stmt_0, h1, h2, h3, h4, h9, h10, hkind, ho, hrrl, hcap0, hcap1, hpl, -List.all_eq_true]
        all_goals simp
    · rw [if_neg h12] at hrk
      by_cases h15 : op = 15 ∧ hasN names s = false
      · rw [if_pos h15] at hrk
        obtain ⟨rfl, h15⟩ := h15
        rw [h15] at hhas
        refine hz _ ?_ _ (hloop _ _ (some (.tup [.sl 2 [], .agg [.int .i64 z.2.1, .int .i64 z.2.2]], [])) ?_ ?_ ?_ ?_ ?_ ?_ ?_ ?_ ?_)
        · rw [hQ]
          exact ⟨[], _, .inl rfl, rfl, fun h => by rw [hrk] at h; simp at h⟩
        · intro φ' h; exact absurd h hf
        · intro φ' _ h1 h2 h3 h4 h9 h10
          rw [hrk]
          simp [r_r19_stmt_0, h1, h2, h3, h4, h9, h10, hhas]
        all_goals simp
      · rw [if_neg h15] at hrk
        by_cases hfb2 : (Sm.rks (hasN names) R.get b (no + 1)).1 ≠ 0
        · rw [if_pos hfb2] at hrk
          refine hz _ ?_ _ (hloop _ _ (some (.tup [.sl 2 [], .agg [.int .i64 z.2.1, .int .i64 z.2.2]], [])) ?_ ?_ ?_ ?_ ?_ ?_ ?_ ?_ ?_)
          · rw [hQ]
            exact ⟨[], _, .inl rfl, rfl, fun h => by rw [hrk] at h; exact absurd h hfb2⟩
          · intro φ' h; exact absurd h hf
          · intro φ' _ h1 h2 h3 h4 h9 h10
            rw [hrk]
            generalize Sm.rks (hasN names) R.get b (no + 1) = q at hbv hfb2 ⊢
            by_cases hop : op = 15
            · have hh : hasN names s = true := by simpa using fun h => h15 ⟨hop, h⟩
              rw [hh] at hhas
              subst hop
              simp [r_r19_stmt_0, h1, h2, h3, h4, h9, hhas, hw1, hbv, hfb2]
            · simp [r_r19_stmt_0, h1, h2, h3, h4, h9, h12, hop, hw1, hbv, hfb2]
          all_goals simp
        · rw [if_neg hfb2] at hrk
          simp only [ne_eq, Decidable.not_not] at hfb2
          refine hz _ ?_ _ (hloop _ _ (some (.tup [.sl 2 (rrows R), .agg [.int .i64 z.2.1, .int .i64 z.2.2]], [])) ?_ ?_ ?_ ?_ ?_ ?_ ?_ ?_ ?_)
          · rw [hQ]
            exact ⟨R, _, .inl rfl, rfl, fun h => by rw [hrk]; exact ⟨rfl, hNZ, by omega⟩⟩
          · intro φ' h; exact absurd h hf
          · intro φ' _ h1 h2 h3 h4 h9 h10
            rw [hrk]
            generalize Sm.rks (hasN names) R.get b (no + 1) = q at hbv hfb2 ⊢
            by_cases hop : op = 15
            · have hh : hasN names s = true := by simpa using fun h => h15 ⟨hop, h⟩
              rw [hh] at hhas
              subst hop
              simp [r_r19_stmt_0, h1, h2, h3, h4, h9, hhas, hw1, hbv, hfb2, hcount, hw2, hcv]
            · simp [r_r19_stmt_0, h1, h2, h3, h4, h9, h12, hop, hw1, hbv, hfb2, hcount, hw2, hcv]
          all_goals simp
theorem rblock_loop (names : List Nm) (hN : names.length ≤ 50000) (L : List Sm) (hL : Sm.sizes L ≤ 1000) (hst : ∀ x ∈ L, StRef x) (R0 : Mp) (no0 : Int) (k : List Item) (X : Option (V × Heap))
    (hret : ∀ φ' T, (Sm.rks (hasN names) R0.get L no0).1 ≠ 0 → Fr.get φ' 8 = .ptr 0 0 → retK k φ' (some [.int .i64 (Sm.rks (hasN names) R0.get L no0).1, .int .i64 (Sm.rks (hasN names) R0.get L no0).2] :: T) = X)
    (hexit : ∀ φ' T a b, Sm.rks (hasN names) R0.get L no0 = (0, 0) → Fr.get φ' 8 = .ptr 0 0 → M (eval tbl noExt) k φ' (some [.int .i64 a, .int .i64 b] :: T) = X) :
    ∀ (l : List Sm) (i : Nat) (R : Mp) (no : Int) (φ : Fr) (T : Heap) (a b : Int) (v : V), L.drop i = l → Sm.rks (hasN names) R0.get L no0 = Sm.rks (hasN names) R.get l no → NZ R → R.length + Sm.sizes l ≤ 50000 → 0 ≤ no → no + Sm.sizes l ≤ 1000000 →
      Fr.get φ 0 = .sl 7 (Sm.rows L) → Fr.get φ 1 = .int .i64 no → (v = .sl 2 (rrows R) ∨ v = .own 2 (rrows R)) → Fr.get φ 2 = v → Fr.get φ 3 = .sl 1 (nrows names) → Fr.get φ 8 = .ptr 0 0 → Fr.get φ 9 = .int .i64 i →
      M (eval tbl noExt) (.code l_r19_block_0 :: .blk 0 :: k) φ (some [.int .i64 a, .int .i64 b] :: T) = X := by
  have hrl : (Sm.rows L).length = L.length := by rw [Sm.rows_eq]; simp
  have hLl := Sm.sizes_ge L
  intro l
  induction l with
  | nil =>
    intro i R no φ T a b v hd e1 hNZ hRl hn1 hn2 h0 h1 hv h2 h3 h8 h9
    have hi : L.length ≤ i := by rw [← Nat.sub_eq_zero_iff_le, ← List.length_drop, hd]; rfl
    have hlt : ¬ ((i : Int) < L.length) := by omega
    rw [Sm.rks] at e1
    rw [l_r19_block_0, M_loop, ← l_r19_block_0]
    rcases hv with rfl | rfl
    · simp [b_r19_block_0, h0, h1, h2, h3, h8, h9, hrl, hlt]
      exact hexit _ _ _ _ e1 (by simp [h8])
    · simp [b_r19_block_0, h0, h1, h2, h3, h8, h9, hrl, hlt]
      exact hexit _ _ _ _ e1 (by simp [h8])
  | cons x l ih =>
    intro i R no φ T a b v hd e1 hNZ hRl hn1 hn2 h0 h1 hv h2 h3 h8 h9
    have hi : i < L.length := by
      have : (L.drop i).length = l.length + 1 := by rw [hd]; rfl
      rw [List.length_drop] at this; omega
    have hlt : (i : Int) < L.length := by omega
    have hLx : L[i]? = some x := by rw [← List.head?_drop, hd]; rfl
    have hmem : x ∈ L := List.mem_of_getElem? hLx
    have hd1 : L.drop (i + 1) = l := by rw [← List.tail_drop, hd]; rfl
    have hr : (Sm.rows L)[i]? = some x.cells := by rw [Sm.rows_eq, List.getElem?_map, hLx]; rfl
    have hr2 : ∀ h, (Sm.rows L)[i]'h = x.cells := fun h => by rw [List.getElem?_eq_getElem h] at hr; exact Option.some.inj hr
    have hw : IntKind.i64.wrap ((i : Int) + 1) = ((i + 1 : Nat) : Int) := by rw [w64 (by omega) (by omega)]; rfl
    have hxs := Sm.sizes_mem hmem
    simp only [Sm.sizes] at hRl hn2
    obtain ⟨R', v', hv', hev, hR'⟩ := hst x hmem R names no hNZ (by omega) hN hn1 (by omega)
    have e2 : Sm.rks (hasN names) R0.get L no0 = if (x.rk (hasN names) R.get no).2.1 ≠ 0 then (x.rk (hasN names) R.get no).2 else Sm.rks (hasN names) (x.rk (hasN names) R.get no).1 l (no + x.flat.length) := by rw [e1, Sm.rks]
    clear e1
    obtain ⟨op, s, n, e, bb, cc, g⟩ := x
    simp only [Sm.size] at hxs hn2 hRl
    have hcb := refCount_ok 1000 bb (by omega) (Nat.le_refl _)
    have hcc := refCount_ok 1000 cc (by omega) (Nat.le_refl _)
    have hfb := Sm.flats_sizes bb
    have hfc := Sm.flats_sizes cc
    have hw1 : IntKind.i64.wrap (no + 1) = no + 1 := by rw [w64 (by omega) (by omega)]
    have hw2 : IntKind.i64.wrap (no + 1 + (Sm.flats bb).length) = no + 1 + (Sm.flats bb).length := by rw [w64 (by omega) (by omega)]
    have hw3 : IntKind.i64.wrap (no + 1 + (Sm.flats bb).length + (Sm.flats cc).length) = no + 1 + (Sm.flats bb).length + (Sm.flats cc).length := by rw [w64 (by omega) (by omega)]
    have hfl : ((Sm.mk op s n e bb cc g).flat.length : Int) = 1 + (Sm.flats bb).length + (Sm.flats cc).length := by simp only [Sm.flat, List.length_cons, List.length_append]; omega
    generalize (Sm.mk op s n e bb cc g).rk (hasN names) R.get no = z at hev hR' e2
    simp only [Sm.cells] at hr hr2 hev
    rw [l_r19_block_0, M_loop, ← l_r19_block_0]
    obtain ⟨z0, z1, z2⟩ := z
    simp only at hev hR' e2
    by_cases hz : z1 = 0
    · subst hz
      obtain ⟨hg1, hg2, hg3⟩ := hR' rfl
      rw [if_neg (by simp), ← hg1, hfl] at e2
      have e3 : no + (1 + (Sm.flats bb).length + (Sm.flats cc).length : Int) = no + 1 + (Sm.flats bb).length + (Sm.flats cc).length := by omega
      rw [e3] at e2
      rcases hv with rfl | rfl
      · rcases hv' with rfl | rfl
        · simp [b_r19_block_0, h0, h1, h2, h3, h8, h9, hrl, hlt, hi, hr, hr2, hw, hev, hcb, hcc, hw1, hw2, hw3]
          refine ih (i + 1) R' _ _ _ a b (.sl 2 (rrows R')) hd1 e2 hg2 (by omega) (by omega) (by omega) ?_ ?_ (.inl rfl) ?_ ?_ ?_ ?_
          all_goals simp [h0, h3, h8]
        · simp [b_r19_block_0, h0, h1, h2, h3, h8, h9, hrl, hlt, hi, hr, hr2, hw, hev, hcb, hcc, hw1, hw2, hw3]
          refine ih (i + 1) R' _ _ _ a b (.own 2 (rrows R')) hd1 e2 hg2 (by omega) (by omega) (by omega) ?_ ?_ (.inr rfl) ?_ ?_ ?_ ?_
          all_goals simp [h0, h3, h8]
      · rcases hv' with rfl | rfl
        · simp [b_r19_block_0, h0, h1, h2, h3, h8, h9, hrl, hlt, hi, hr, hr2, hw, hev, hcb, hcc, hw1, hw2, hw3]
          refine ih (i + 1) R' _ _ _ a b (.sl 2 (rrows R')) hd1 e2 hg2 (by omega) (by omega) (by omega) ?_ ?_ (.inl rfl) ?_ ?_ ?_ ?_
          all_goals simp [h0, h3, h8]
        · simp [b_r19_block_0, h0, h1, h2, h3, h8, h9, hrl, hlt, hi, hr, hr2, hw, hev, hcb, hcc, hw1, hw2, hw3]
          refine ih (i + 1) R' _ _ _ a b (.own 2 (rrows R')) hd1 e2 hg2 (by omega) (by omega) (by omega) ?_ ?_ (.inr rfl) ?_ ?_ ?_ ?_
          all_goals simp [h0, h3, h8]
    · rw [if_pos hz] at e2
      rw [e2] at hret
      rcases hv with rfl | rfl
      · rcases hv' with rfl | rfl
        · simp [b_r19_block_0, h0, h1, h2, h3, h8, h9, hrl, hlt, hi, hr, hr2, hw, hev, hz]
          exact hret _ _ hz (by simp [h8])
        · simp [b_r19_block_0, h0, h1, h2, h3, h8, h9, hrl, hlt, hi, hr, hr2, hw, hev, hz]
          exact hret _ _ hz (by simp [h8])
      · rcases hv' with rfl | rfl
        · simp [b_r19_block_0, h0, h1, h2, h3, h8, h9, hrl, hlt, hi, hr, hr2, hw, hev, hz]
          exact hret _ _ hz (by simp [h8])
        · simp [b_r19_block_0, h0, h1, h2, h3, h8, h9, hrl, hlt, hi, hr, hr2, hw, hev, hz]
          exact hret _ _ hz (by simp [h8])
theorem rblock_step (L : List Sm) (hL : Sm.sizes L ≤ 1000) (hst : ∀ x ∈ L, StRef x) : BlRef L := by
  intro R names no hNZ hR hN hn1 hn2
  rw [eval_M rfl rfl t_r19_block rfl]
  simp [c_r19_block]
  refine rblock_loop names hN L hL hst R no _ _ ?_ ?_ L 0 R no _ [] 0 0 (.sl 2 (rrows R)) rfl rfl hNZ hR hn1 hn2 ?_ ?_ (.inl rfl) ?_ ?_ ?_ ?_
  · intro φ' T _ h8
    simp [h8]
  · intro φ' T a b h0 h8
    rw [h0]
    simp [r_r19_block_0, h8]
  all_goals simp
theorem rblock_ok : ∀ (n : Nat) (l : List Sm) (d : Nat), Sm.sizes l ≤ n → n ≤ 1000 → Sm.oks l d = true → BlRef l := by
  intro n
  induction n with
  | zero =>
    intro l d hn _ hok
    cases l with
    | nil => exact rblock_step [] (by simp [Sm.sizes]) (by simp)
    | cons x l => cases x; simp only [Sm.sizes, Sm.size] at hn; omega
  | succ n ih =>
    intro l d hn hn2 hok
    refine rblock_step l (by omega) fun x hx => ?_
    have hxs := Sm.sizes_mem hx
    have hxok : x.ok d = true := by rw [Sm.oks_all, List.all_eq_true] at hok; exact hok x hx
    obtain ⟨op, s, m, e, b1, b2, g⟩ := x
    obtain ⟨h1, h2⟩ := Sm.ok_in hxok
    simp only [Sm.size] at hxs
    have hel := Ex.sizes_ge e
    exact rstmt_step op m s e b1 b2 g d hxok (by omega) (by omega) (ih _ _ (by omega) (by omega) h1) (ih _ _ (by omega) (by omega) h2)
end Go.AM.Spec
namespace Go.AM.Spec
set_option linter.unusedVariables false
set_option linter.unusedSimpArgs false
set_option maxHeartbeats 4000000
set_option maxRecDepth 10000
theorem get_none : Mp.get ([] : Mp) = env0 := by funext t; rfl
theorem NZ.nil : NZ [] := fun x h => by simp at h
theorem nrows_plain (l : List Nm) : ((nrows l).all fun r => r.all V.plain) = true := by
  simp [nrows]
theorem rprocs_loop (p : Pg) (hp : ∀ x ∈ p.procs, Sm.oks x.2 1 = true) (hs : ∀ x ∈ p.procs, Sm.sizes x.2 ≤ 1000) (hl : p.procs.length ≤ 1000) (k : List Item) (X : Option (V × Heap))
    (hret : ∀ φ' T, (procsR p.procs [] 0).1.1 ≠ 0 → Fr.get φ' 2 = .ptr 1 0 → retK k φ' (some p.cells :: some [.int .i64 (procsR p.procs [] 0).1.1, .int .i64 (procsR p.procs [] 0).1.2] :: T) = X)
    (hexit : ∀ φ' T, (procsR p.procs [] 0).1 = (0, 0) → Fr.get φ' 1 = .ptr 0 0 → Fr.get φ' 2 = .ptr 1 0 → Fr.get φ' 3 = .int .i64 (procsR p.procs [] 0).2.2 → Fr.get φ' 4 = .own 1 (nrows (procsR p.procs [] 0).2.1) → (procsR p.procs [] 0).2.1.length ≤ 1000 →
      0 ≤ (procsR p.procs [] 0).2.2 → (procsR p.procs [] 0).2.2 ≤ 40000 → M (eval tbl noExt) k φ' (some p.cells :: some [.int .i64 0, .int .i64 0] :: T) = X) :
    ∀ (l : List (Nm × List Sm)) (i : Nat) (names : List Nm) (no : Int) (φ : Fr) (T : Heap), p.procs.drop i = l → procsR p.procs [] 0 = procsR l names no → names.length + l.length ≤ 1000 → 0 ≤ no → no + psz l ≤ 40000 →
      Fr.get φ 1 = .ptr 0 0 → Fr.get φ 2 = .ptr 1 0 → Fr.get φ 3 = .int .i64 no → Fr.get φ 4 = .own 1 (nrows names) → Fr.get φ 5 = .int .i64 i →
      M (eval tbl noExt) (.code l_r19_Check_0 :: .blk 0 :: k) φ (some p.cells :: some [.int .i64 0, .int .i64 0] :: T) = X := by
  have hpl := p.pcells_len
  simp only [Pg.cells] at hret hexit ⊢
  intro l
  induction l with
  | nil =>
    intro i names no φ T hd e1 hnm hn1 hn2 h1 h2 h3 h4 h5
    have hi : p.procs.length ≤ i := by rw [← Nat.sub_eq_zero_iff_le, ← List.length_drop, hd]; rfl
    have hlt : ¬ ((i : Int) < p.procs.length) := by omega
    rw [procsR] at e1
    rw [e1] at hexit
    simp only [psz, List.map_nil, List.sum_nil] at hn2
    have hni : names.length ≤ 1000 := by simp at hnm; exact hnm
    rw [l_r19_Check_0, M_loop, ← l_r19_Check_0]
    simp [b_r19_Check_0, h1, h2, h3, h4, h5, hpl, hlt]
    refine hexit _ _ rfl ?_ ?_ ?_ ?_ hni hn1 (by simp only; omega)
    · simp [h1]
    · simp [h2]
    · simp [h3]
    · simp [h4]
  | cons x l ih =>
    intro i names no φ T hd e1 hnm hn1 hn2 h1 h2 h3 h4 h5
    have hi : i < p.procs.length := by
      have : (p.procs.drop i).length = l.length + 1 := by rw [hd]; rfl
      rw [List.length_drop] at this; omega
    have hlt : (i : Int) < p.procs.length := by omega
    have hLx : p.procs[i]? = some x := by rw [← List.head?_drop, hd]; rfl
    have hmem : x ∈ p.procs := List.mem_of_getElem? hLx
    have hd1 : p.procs.drop (i + 1) = l := by rw [← List.tail_drop, hd]; rfl
    have hw : IntKind.i64.wrap ((i : Int) + 1) = ((i + 1 : Nat) : Int) := by rw [w64 (by omega) (by omega)]; rfl
    have hxok := hp x hmem
    have hxs := hs x hmem
    obtain ⟨nm, body⟩ := x
    have hr : p.pcells[i]? = some [.str nm, .sl 7 (Sm.rows body)] := by rw [Pg.pcells, List.getElem?_map, hLx]; rfl
    have hr2 : ∀ h, p.pcells[i]'h = [.str nm, .sl 7 (Sm.rows body)] := fun h => by rw [List.getElem?_eq_getElem h] at hr; exact Option.some.inj hr
    simp only [psz, List.map_cons, List.sum_cons] at hn2
    simp only [List.length_cons] at hnm
    have hhas := rhas_eq names (by omega) nm
    have hfb := Sm.flats_sizes body
    have hblock := rblock_ok 1000 body 1 hxs (Nat.le_refl _) hxok [] names no NZ.nil (by simp; omega) (by omega) hn1 (by omega)
    rw [get_none, show rrows ([] : Mp) = [] from rfl] at hblock
    have hcount := refCount_ok 1000 body hxs (Nat.le_refl _)
    have hwn : IntKind.i64.wrap (no + (Sm.flats body).length) = no + (Sm.flats body).length := by rw [w64 (by omega) (by omega)]
    have hnl : (nrows names).length = names.length := by simp [nrows]
    have hcap : 2 * (names.length + 1) * 16 ≤ 281474976710656 := by omega
    have hnp := nrows_plain names
    have hns : nrows names ++ [[.str nm]] = nrows (names ++ [nm]) := by simp [nrows]
    rw [procsR] at e1
    rw [l_r19_Check_0, M_loop, ← l_r19_Check_0]
    cases hh : hasN names nm with
    | true =>
      rw [hh] at hhas
      rw [if_pos (by simpa using hh)] at e1
      rw [e1] at hret
      simp [b_r19_Check_0, h1, h2, h3, h4, h5, hpl, hlt, hi, hr, hr2, hhas]
      exact hret _ _ (by simp) (by simp [h2])
    | false =>
      rw [hh] at hhas
      rw [if_neg (by simp [hh])] at e1
      simp only at e1
      by_cases hf : (Sm.rks (hasN names) env0 body no).1 ≠ 0
      · rw [if_pos hf] at e1
        rw [e1] at hret
        simp only at hret
        generalize Sm.rks (hasN names) env0 body no = z at hblock hf hret
        simp [b_r19_Check_0, h1, h2, h3, h4, h5, hpl, hlt, hi, hr, hr2, hhas, hblock, hf]
        exact hret _ _ hf (by simp [h2])
      · rw [if_neg hf] at e1
        simp only [ne_eq, Decidable.not_not] at hf
        generalize Sm.rks (hasN names) env0 body no = z at hblock hf
        simp [b_r19_Check_0, h1, h2, h3, h4, h5, hpl, hlt, hi, hr, hr2, hw, hhas, hblock, hf, hcount, hwn, hnl, hcap, hnp, hns, -List.all_eq_true]
        refine ih (i + 1) _ _ _ _ hd1 e1 (by simp; omega) (by omega) (by simp only [psz]; omega) ?_ ?_ ?_ ?_ ?_
        · simp [h1]
        · simp [h2]
        · simp
        · simp
        · simp
theorem roracles_loop (p : Pg) (hp : ∀ x ∈ p.oracles, x.2.ok 8 = true) (hl : p.oracles.length ≤ 1000) (no : Int) (hn1 : 0 ≤ no) (hn2 : no ≤ 100000) (k : List Item) (X : Option (V × Heap))
    (hret : ∀ φ' T, (oraclesR p.oracles [] no).1 ≠ 0 → Fr.get φ' 2 = .ptr 1 0 → retK k φ' (some p.cells :: some [.int .i64 (oraclesR p.oracles [] no).1, .int .i64 (oraclesR p.oracles [] no).2] :: T) = X)
    (hexit : ∀ φ' T, oraclesR p.oracles [] no = (0, 0) → Fr.get φ' 2 = .ptr 1 0 → M (eval tbl noExt) k φ' (some p.cells :: some [.int .i64 0, .int .i64 0] :: T) = X) :
    ∀ (l : List (Nm × Ex)) (i : Nat) (seen : List Nm) (φ : Fr) (T : Heap), p.oracles.drop i = l → oraclesR p.oracles [] no = oraclesR l seen (no + i) → seen.length + l.length ≤ 1000 →
      Fr.get φ 1 = .ptr 0 0 → Fr.get φ 2 = .ptr 1 0 → Fr.get φ 3 = .int .i64 no → Fr.get φ 9 = .own 1 (nrows seen) → Fr.get φ 10 = .int .i64 i →
      M (eval tbl noExt) (.code l_r19_Check_1 :: .blk 2 :: k) φ (some p.cells :: some [.int .i64 0, .int .i64 0] :: T) = X := by
  have hol := p.ocells_len
  have h00 := oraclesR_num p.oracles [] no
  simp only [Pg.cells] at hret hexit ⊢
  intro l
  induction l with
  | nil =>
    intro i seen φ T hd e1 hnm h1 h2 h3 h9 h10
    have hi : p.oracles.length ≤ i := by rw [← Nat.sub_eq_zero_iff_le, ← List.length_drop, hd]; rfl
    have hlt : ¬ ((i : Int) < p.oracles.length) := by omega
    rw [oraclesR] at e1
    rw [l_r19_Check_1, M_loop, ← l_r19_Check_1]
    simp [b_r19_Check_1, h1, h2, h3, h9, h10, hol, hlt]
    refine hexit _ _ e1 ?_
    simp [h2]
  | cons x l ih =>
    intro i seen φ T hd e1 hnm h1 h2 h3 h9 h10
    have hi : i < p.oracles.length := by
      have : (p.oracles.drop i).length = l.length + 1 := by rw [hd]; rfl
      rw [List.length_drop] at this; omega
    have hlt : (i : Int) < p.oracles.length := by omega
    have hLx : p.oracles[i]? = some x := by rw [← List.head?_drop, hd]; rfl
    have hmem : x ∈ p.oracles := List.mem_of_getElem? hLx
    have hd1 : p.oracles.drop (i + 1) = l := by rw [← List.tail_drop, hd]; rfl
    have hw : IntKind.i64.wrap ((i : Int) + 1) = ((i + 1 : Nat) : Int) := by rw [w64 (by omega) (by omega)]; rfl
    have hwn : IntKind.i64.wrap (no + i) = no + i := by rw [w64 (by omega) (by omega)]
    have hxok := hp x hmem
    obtain ⟨nm, e⟩ := x
    have hr := p.orow hLx
    have hr2 : ∀ h, p.ocells[i]'h = .str nm :: e.cells := fun h => by rw [List.getElem?_eq_getElem h] at hr; exact Option.some.inj hr
    simp only [List.length_cons] at hnm
    have hhas := rhas_eq seen (by omega) nm
    have htype := rtype_ok [] (by simp) e.size e (Nat.le_refl _) (Ex.ok_thin e 8 hxok)
    unfold RtOK at htype
    rw [get_none, show rrows ([] : Mp) = [] from rfl] at htype
    have hnl : (nrows seen).length = seen.length := by simp [nrows]
    have hcap : 2 * (seen.length + 1) * 16 ≤ 281474976710656 := by omega
    have hnp := nrows_plain seen
    have hns : nrows seen ++ [[.str nm]] = nrows (seen ++ [nm]) := by simp [nrows]
    rw [oraclesR] at e1
    obtain ⟨op, n, s, y⟩ := e
    generalize (Ex.mk op n s y).ty env0 = z at htype e1
    obtain ⟨z1, z2⟩ := z
    simp only [Ex.cells] at hr hr2 htype
    simp only at e1
    rw [l_r19_Check_1, M_loop, ← l_r19_Check_1]
    cases hh : hasN seen nm with
    | true =>
      rw [hh] at hhas
      rw [if_pos (by simpa using hh)] at e1
      rw [e1] at hret
      simp [b_r19_Check_1, h1, h2, h3, h9, h10, hol, hlt, hi, hr, hr2, hhas, hwn]
      exact hret _ _ (by simp) (by simp [h2])
    | false =>
      rw [hh] at hhas
      rw [if_neg (by simp [hh])] at e1
      by_cases hf : z2 ≠ 0
      · rw [if_pos hf] at e1
        rw [e1] at hret
        simp [b_r19_Check_1, h1, h2, h3, h9, h10, hol, hlt, hi, hr, hr2, hhas, htype, hf, hwn]
        exact hret _ _ hf (by simp [h2])
      · rw [if_neg hf] at e1
        simp only [ne_eq, Decidable.not_not] at hf
        subst hf
        by_cases h3' : z1 ≠ 3
        · rw [if_pos h3'] at e1
          rw [e1] at hret
          simp [b_r19_Check_1, h1, h2, h3, h9, h10, hol, hlt, hi, hr, hr2, hhas, htype, h3', hwn]
          exact hret _ _ (by simp) (by simp [h2])
        · rw [if_neg h3'] at e1
          simp only [ne_eq, Decidable.not_not] at h3'
          subst h3'
          simp [b_r19_Check_1, h1, h2, h3, h9, h10, hol, hlt, hi, hr, hr2, hw, hhas, htype, hnl, hcap, hnp, hns, -List.all_eq_true]
          refine ih (i + 1) _ _ _ hd1 (by rw [e1]; congr 1; omega) (by simp; omega) ?_ ?_ ?_ ?_ ?_
          · simp [h1]
          · simp [h2]
          · simp [h3]
          · simp
          · simp
theorem refCheck_eq (p : Pg) (h : p.Fine) (hs : p.size ≤ 600) : eval tbl noExt n_r19_Check [.agg p.cells] [] = some (.agg [.int .i64 p.typed.1, .int .i64 p.typed.2], []) := by
  have hR := refRight_eq p h (by omega) []
  have hl := p.lens h.size
  unfold Pg.typed
  cases hok : p.ok with
  | false =>
    rw [hok] at hR
    rw [eval_M rfl rfl t_r19_Check rfl]
    simp only [Pg.cells] at hR ⊢
    simp [c_r19_Check, hR]
  | true =>
    rw [hok] at hR
    obtain ⟨hp1, hp2, hp3, hp4⟩ := p.ok_parts hok
    have hps : psz p.procs = p.psize := rfl
    have hsize : p.size = p.psize + Sm.sizes p.main + Sm.sizes p.recover + p.osize := rfl
    have hpsz : ∀ x ∈ p.procs, Sm.sizes x.2 ≤ 1000 := fun x hx => by
      have : ∀ l : List (Nm × List Sm), x ∈ l → Sm.sizes x.2 ≤ psz l := by
        intro l
        induction l with
        | nil => intro h; simp at h
        | cons y l ih =>
          intro h
          simp only [psz, List.map_cons, List.sum_cons] at ih ⊢
          rcases List.mem_cons.1 h with rfl | h
          · omega
          · have := ih h; omega
      have := this _ hx; omega
    have hpll : ∀ l : List (Nm × List Sm), l.length ≤ psz l := by
      intro l
      induction l with
      | nil => simp [psz]
      | cons y l ih => simp only [psz, List.map_cons, List.sum_cons, List.length_cons] at ih ⊢; omega
    have hpl1 := hpll p.procs
    have holl : ∀ l : List (Nm × Ex), l.length ≤ osz l := by
      intro l
      induction l with
      | nil => simp [osz]
      | cons y l ih => simp only [osz, List.map_cons, List.sum_cons, List.length_cons] at ih ⊢; omega
    have hol1 := holl p.oracles
    have hos : osz p.oracles = p.osize := rfl
    have hpl2 : p.procs.length ≤ 1000 := by omega
    have hol2 : p.oracles.length ≤ 1000 := by omega
    rw [if_pos rfl]
    have hrest := rkF_rest p
    have hnum := (procsR_num p.procs [] 0).2
    have hloop := fun k φ T X hret hexit h1 h2 h3 h4 h5 => rprocs_loop p hp1 hpsz hpl2 k X hret hexit p.procs 0 [] 0 φ T rfl rfl (by simp; omega) (by omega) (by omega) h1 h2 h3 h4 h5
    have hol := fun no hn1 hn2 k φ T X hret hexit h1 h2 h3 h9 h10 => roracles_loop p hp2 hol2 no hn1 hn2 k X hret hexit p.oracles 0 [] φ T rfl (by simp) (by simp; omega) h1 h2 h3 h9 h10
    rw [eval_M rfl rfl t_r19_Check rfl]
    simp only [Pg.cells] at hR hloop hol ⊢
    simp [c_r19_Check, hR]
    refine hloop _ _ _ _ ?_ ?_ ?_ ?_ ?_ ?_ ?_
    · intro φ' T hf h2
      rw [if_pos hf] at hrest
      rw [hrest]
      simp [h2]
    · intro φ' T h0 h1 h2 h3 h4 hn hn1 hn2
      rw [h0, if_neg (by simp)] at hrest
      clear hloop h0 hnum
      generalize (procsR p.procs [] 0).2.1 = names at *
      generalize (procsR p.procs [] 0).2.2 = no at *
      have hfm := Sm.flats_sizes p.main
      have hfr := Sm.flats_sizes p.recover
      have hbm := rblock_ok 1000 p.main 1 (by omega) (Nat.le_refl _) hp3 [] names no NZ.nil (by simp; omega) (by omega) hn1 (by omega)
      have hbr := rblock_ok 1000 p.recover 1 (by omega) (Nat.le_refl _) hp4 [] names (no + (Sm.flats p.main).length) NZ.nil (by simp; omega) (by omega) (by omega) (by omega)
      rw [get_none, show rrows ([] : Mp) = [] from rfl] at hbm hbr
      have hcm := refCount_ok 1000 p.main (by omega) (Nat.le_refl _)
      have hcr := refCount_ok 1000 p.recover (by omega) (Nat.le_refl _)
      have hw1 : IntKind.i64.wrap (no + (Sm.flats p.main).length) = no + (Sm.flats p.main).length := by rw [w64 (by omega) (by omega)]
      have hw2 : IntKind.i64.wrap (no + (Sm.flats p.main).length + (Sm.flats p.recover).length) = no + (Sm.flats p.main).length + (Sm.flats p.recover).length := by rw [w64 (by omega) (by omega)]
      unfold restR at hrest
      by_cases c1 : (Sm.rks (hasN names) env0 p.main no).1 ≠ 0
      · rw [if_pos c1] at hrest
        rw [hrest]
        generalize Sm.rks (hasN names) env0 p.main no = z at hbm c1 ⊢
        simp [r_r19_Check_1, h1, h2, h3, h4, hbm, c1]
      · rw [if_neg c1] at hrest
        simp only [ne_eq, Decidable.not_not] at c1
        generalize Sm.rks (hasN names) env0 p.main no = z at hbm c1
        by_cases c2 : (Sm.rks (hasN names) env0 p.recover (no + (Sm.flats p.main).length)).1 ≠ 0
        · rw [if_pos c2] at hrest
          rw [hrest]
          generalize Sm.rks (hasN names) env0 p.recover (no + (Sm.flats p.main).length) = y at hbr c2 ⊢
          simp [r_r19_Check_1, h1, h2, h3, h4, hbm, c1, hcm, hw1, hbr, c2]
        · rw [if_neg c2] at hrest
          simp only [ne_eq, Decidable.not_not] at c2
          generalize Sm.rks (hasN names) env0 p.recover (no + (Sm.flats p.main).length) = y at hbr c2
          rw [hrest]
          simp [r_r19_Check_1, h1, h2, h3, h4, hbm, c1, hcm, hw1, hbr, c2, hcr, hw2]
          refine hol (no + (Sm.flats p.main).length + (Sm.flats p.recover).length) (by omega) (by omega) _ _ _ _ ?_ ?_ ?_ ?_ ?_ ?_ ?_
          · intro φ2 T2 hf j2
            simp [j2]
          · intro φ2 T2 h00 j2
            rw [h00]
            simp [r_r19_Check_0, j2]
          all_goals simp [h1, h2, nrows]
    all_goals simp [nrows]
end Go.AM.Spec
namespace Go.AM.Spec
set_option linter.unusedVariables false
set_option linter.unusedSimpArgs false
set_option maxHeartbeats 4000000
set_option maxRecDepth 10000
theorem Fault_eq (a b c d : Int) : eval tbl noExt n_l15_Fault [.agg [.int .i64 a, .int .i64 b], .agg [.int .i64 c, .int .i64 d]] [] = some (.bool (decide (a = c) && decide (b = d)), []) := by
  rw [eval_M rfl rfl t_l15_Fault rfl]
  by_cases h1 : a = c
  · by_cases h2 : b = d
    · simp [c_l15_Fault, h1, h2]
    · simp [c_l15_Fault, h1, h2]
  · simp [c_l15_Fault, h1]
theorem Pg.chk_typed (p : Pg) : p.chk = p.typed := by
  unfold Pg.chk Pg.typed
  cases h : p.ok with
  | false => rfl
  | true => simp only [if_true]; exact Pg.chk_rk h
end Go.AM.Spec
namespace Go.AM.Spec
set_option linter.unusedVariables false
set_option linter.unusedSimpArgs false
set_option maxHeartbeats 1000000
set_option maxRecDepth 10000
mutual
def stepsB (k : Env) : List Sm → Int → Int
  | [], n => n
  | x :: l, n => stepsB k l (min (n + 1 + x.extB k) 65537)
def Sm.extB (k : Env) : Sm → Int
  | .mk op s n _ b c _ => if op = 14 then n * stepsB k b 0 else if op = 13 then max (stepsB k b 0) (stepsB k c 0) else if op = 16 then b.length else if op = 15 then k s else 0
end
def EnvB (k : Env) : Prop := ∀ s, 0 ≤ k s ∧ k s ≤ 65537
mutual
def Sm.low : Sm → Bool
  | .mk _ _ n _ b c _ => decide (0 ≤ n ∧ n ≤ 16) && decide (b.length ≤ 20000) && (Sm.lows b && Sm.lows c)
def Sm.lows : List Sm → Bool
  | [] => true
  | x :: l => x.low && Sm.lows l
end
mutual
theorem Sm.ext_low (k : Env) (hk : EnvB k) : ∀ x : Sm, x.low = true → 0 ≤ x.extB k ∧ x.extB k ≤ 1048592
  | .mk op s n e b c g, h => by
    simp only [Sm.low, Bool.and_eq_true, decide_eq_true_eq] at h
    obtain ⟨⟨⟨hn0, hn1⟩, hbl⟩, hb, hc⟩ := h
    have h1 := stepsB_low k hk b hb 0 (by omega) (by omega)
    have h2 := stepsB_low k hk c hc 0 (by omega) (by omega)
    have h3 := hk s
    simp only [Sm.extB]
    split
    · constructor
      · exact Int.mul_nonneg hn0 h1.1
      · have : n * stepsB k b 0 ≤ 16 * 65537 := Int.mul_le_mul hn1 h1.2 h1.1 (by omega)
        omega
    split
    · omega
    split
    · omega
    split <;> omega
theorem stepsB_low (k : Env) (hk : EnvB k) : ∀ l : List Sm, Sm.lows l = true → ∀ n : Int, 0 ≤ n → n ≤ 65537 → 0 ≤ stepsB k l n ∧ stepsB k l n ≤ 65537
  | [], _, n, h0, h1 => ⟨h0, h1⟩
  | x :: l, h, n, h0, h1 => by
    simp only [Sm.lows, Bool.and_eq_true] at h
    have hx := Sm.ext_low k hk x h.1
    simp only [stepsB]
    exact stepsB_low k hk l h.2 _ (by omega) (by omega)
end
def knownB : List (Nm × List Sm) → Mp → Mp
  | [], m => m
  | x :: l, m => knownB l (m.put x.1 (stepsB m.get x.2 0))
theorem Mp.put_low {m : Mp} (h : EnvB m.get) (s : Nm) {v : Int} (h0 : 0 ≤ v) (h1 : v ≤ 65537) : EnvB (m.put s v).get := fun t => by
  rw [Mp.get_put]
  split
  · exact ⟨h0, h1⟩
  · exact h t
theorem knownB_low : ∀ (l : List (Nm × List Sm)) (m : Mp), (∀ x ∈ l, Sm.lows x.2 = true) → EnvB m.get → EnvB (knownB l m).get
  | [], _, _, h => h
  | x :: l, m, hl, h => by
    have hx := stepsB_low m.get h x.2 (hl x (by simp)) 0 (by omega) (by omega)
    exact knownB_low l _ (fun y hy => hl y (by simp [hy])) (Mp.put_low h x.1 hx.1 hx.2)
def Pg.stepsB (p : Pg) : Int × Int × Bool :=
  if p.typed = (0, 0) then (Spec.stepsB (knownB p.procs []).get p.main 0, Spec.stepsB (knownB p.procs []).get p.recover 0, true) else (0, 0, false)
theorem Sm.ok_low : ∀ (n : Nat) (x : Sm) (d : Nat), x.size ≤ n → n ≤ 20000 → x.ok d = true → x.low = true := by
  intro n
  induction n with
  | zero => intro x d h; cases x; simp only [Sm.size] at h; omega
  | succ n ih =>
    intro x d h hn hok
    obtain ⟨op, s, m, e, b, c, g⟩ := x
    have hin := Sm.ok_in hok
    simp only [Sm.size] at h
    have hs := hok
    simp only [Sm.ok, Bool.and_eq_true] at hs
    have hs := hs.2.1
    have go : ∀ l : List Sm, Sm.sizes l ≤ n → Sm.oks l (d + 1) = true → Sm.lows l = true := by
      intro l
      induction l with
      | nil => intros; rfl
      | cons y l ihl =>
        intro h1 h2
        simp only [Sm.sizes] at h1
        simp only [Sm.oks, Bool.and_eq_true] at h2
        simp only [Sm.lows, Bool.and_eq_true]
        exact ⟨ih y (d + 1) (by omega) (by omega) h2.1, ihl (by omega) h2.2⟩
    have hbl := Sm.sizes_ge b
    simp only [Sm.low, Bool.and_eq_true, decide_eq_true_eq]
    refine ⟨⟨?_, by omega⟩, go b (by omega) hin.1, go c (by omega) hin.2⟩
    unfold shapeOk at hs
    split at hs
    · cases hs
    · simp only [Bool.and_eq_true, Bool.or_eq_true, decide_eq_true_eq] at hs
      omega
theorem oks_lows {l : List Sm} {d : Nat} (h : Sm.oks l d = true) (hl : Sm.sizes l ≤ 20000) : Sm.lows l = true := by
  induction l with
  | nil => rfl
  | cons y l ih =>
    simp only [Sm.sizes] at hl
    simp only [Sm.oks, Bool.and_eq_true] at h
    simp only [Sm.lows, Bool.and_eq_true]
    exact ⟨Sm.ok_low 20000 y d (by omega) (by omega) h.1, ih h.2 (by omega)⟩
end Go.AM.Spec
namespace Go.AM.Spec
set_option linter.unusedVariables false
set_option linter.unusedSimpArgs false
set_option maxHeartbeats 4000000
set_option maxRecDepth 10000
theorem bfine_eq (p : Pg) (h : p.Fine) : eval tbl noExt n_bound_fine [.agg p.cells] [] = some (.bool (decide (p.typed = (0, 0))), []) := by
  obtain ⟨H', hC⟩ := Check_eq p h
  rw [Pg.chk_typed] at hC
  have hd : decide (p.typed = (0, 0)) = (decide (p.typed.1 = 0) && decide (p.typed.2 = 0)) := by
    generalize p.typed = f
    obtain ⟨a, b⟩ := f
    by_cases h1 : a = 0 <;> by_cases h2 : b = 0 <;> simp [h1, h2]
  rw [hd]
  generalize p.typed = f at hC ⊢
  rw [eval_M rfl rfl t_bound_fine rfl]
  simp only [Pg.cells] at hC ⊢
  simp [c_bound_fine, hC, eqCells]
def StpOK (H : Heap) (i : Nat) (k : Env) (l : List Sm) : Prop := ∀ T, eval tbl noExt n_bound_known_steps [.mptr i, .sl 7 (Sm.rows l)] (H ++ T) = some (.int .i64 (stepsB k l 0), H ++ T)
theorem steps_loop (H : Heap) (i : Nat) (m : Mp) (hm : H[i]? = some (some (mpc m))) (hE : EnvB m.get) (L : List Sm) (hL : Sm.lows L = true) (hl : L.length ≤ 20000) (hb : ∀ x ∈ L, ∀ b ∈ x.blocks, StpOK H i m.get b) (k : List Item) (X : Option (V × Heap))
    (hexit : ∀ φ' T, Fr.get φ' 5 = .int .i64 (stepsB m.get L 0) → M (eval tbl noExt) k φ' (H ++ T) = X) :
    ∀ (l : List Sm) (j : Nat) (n : Int) (φ : Fr) (T : Heap), L.drop j = l → stepsB m.get L 0 = stepsB m.get l n → Sm.lows l = true → 0 ≤ n → n ≤ 65537 → Fr.get φ 0 = .mptr i → Fr.get φ 5 = .int .i64 n →
      Fr.get φ 8 = .sl 7 (Sm.rows L) → Fr.get φ 9 = .int .i64 L.length → Fr.get φ 10 = .int .i64 j → M (eval tbl noExt) (.code l_bound_known_steps_0 :: .blk 0 :: k) φ (H ++ T) = X := by
  intro l
  induction l with
  | nil =>
    intro j n φ T hd e1 hlo hn0 hn1 h0 h5 h8 h9 h10
    have hj : L.length ≤ j := by rw [← Nat.sub_eq_zero_iff_le, ← List.length_drop, hd]; rfl
    have hlt : ¬ ((j : Int) < L.length) := by omega
    rw [l_bound_known_steps_0, M_loop, ← l_bound_known_steps_0]
    simp [b_bound_known_steps_0, h0, h5, h8, h9, h10, hlt]
    refine hexit _ _ ?_
    rw [e1]
    simp [h5, stepsB]
  | cons x l ih =>
    intro j n φ T hd e1 hlo hn0 hn1 h0 h5 h8 h9 h10
    have hj : j < L.length := by
      have : (L.drop j).length = l.length + 1 := by rw [hd]; rfl
      rw [List.length_drop] at this; omega
    have hlt : (j : Int) < L.length := by omega
    have hLx : L[j]? = some x := by rw [← List.head?_drop, hd]; rfl
    have hmem : x ∈ L := List.mem_of_getElem? hLx
    have hd1 : L.drop (j + 1) = l := by rw [← List.tail_drop, hd]; rfl
    have hw : IntKind.i64.wrap ((j : Int) + 1) = ((j + 1 : Nat) : Int) := by rw [w64 (by omega) (by omega)]; rfl
    have hrl : (Sm.rows L).length = L.length := by rw [Sm.rows_eq]; simp
    have hr : (Sm.rows L)[j]? = some x.cells := by rw [Sm.rows_eq, List.getElem?_map, hLx]; rfl
    have hr2 : ∀ h, (Sm.rows L)[j]'h = x.cells := fun h => by rw [List.getElem?_eq_getElem h] at hr; exact Option.some.inj hr
    simp only [Sm.lows, Bool.and_eq_true] at hlo
    have hxe := Sm.ext_low m.get hE x hlo.1
    have e2 : stepsB m.get L 0 = stepsB m.get l (min (n + 1 + x.extB m.get) 65537) := by rw [e1, stepsB]
    have hxb := hb x hmem
    have hx1 := hlo.1
    obtain ⟨G, hG⟩ : ∃ G, G = H ++ T := ⟨_, rfl⟩
    have eG : ∀ A : Heap, G ++ A = H ++ (T ++ A) := fun A => by rw [hG, List.append_assoc]
    have hmo : ∀ A : Heap, mapOf (G ++ A) false [.str] (.mptr i) = some (mks m, mvs m) := fun A => by
      rw [eG]; simp [mapOf, getE_app hm, mpc]
    have hgo : ∀ b ∈ x.blocks, ∀ A : Heap, eval tbl noExt n_bound_known_steps [.mptr i, .sl 7 (Sm.rows b)] (G ++ A) = some (.int .i64 (stepsB m.get b 0), G ++ A) := fun b hb' A => by
      rw [eG]; exact hxb b hb' _
    rw [← hG]
    clear hxb e1 hL hb
    obtain ⟨op, s, n', e, b, c, g⟩ := x
    have hg1 := hgo b (by simp [Sm.blocks])
    have hg2 := hgo c (by simp [Sm.blocks])
    have hlk := look_mp s m
    have hkw := keyWell_str s
    have hw1 : IntKind.i64.wrap (n + 1) = n + 1 := w64 (by omega) (by omega)
    have hw2 : IntKind.i64.wrap (n + 1 + Sm.extB m.get (.mk op s n' e b c g)) = n + 1 + Sm.extB m.get (.mk op s n' e b c g) := w64 (by omega) (by omega)
    simp only [Sm.low, Bool.and_eq_true, decide_eq_true_eq] at hx1
    obtain ⟨⟨⟨hn'0, hn'1⟩, hbl⟩, hxb, hxc⟩ := hx1
    have hsb := stepsB_low m.get hE b hxb 0 (by omega) (by omega)
    have hbl2 : (Sm.rows b).length = b.length := by rw [Sm.rows_eq]; simp
    have hw3 : IntKind.i64.wrap (n' * stepsB m.get b 0) = n' * stepsB m.get b 0 := by
      have h1 : n' * stepsB m.get b 0 ≤ 16 * 65537 := Int.mul_le_mul hn'1 hsb.2 hsb.1 (by omega)
      have h2 := Int.mul_nonneg hn'0 hsb.1
      exact w64 (by omega) (by omega)
    simp only [Sm.cells] at hr hr2
    have fin : ∀ (φ' : Fr) (A : Heap), Fr.get φ' 0 = .mptr i → Fr.get φ' 5 = .int .i64 (min (n + 1 + Sm.extB m.get (.mk op s n' e b c g)) 65537) → Fr.get φ' 8 = .sl 7 (Sm.rows L) → Fr.get φ' 9 = .int .i64 L.length → Fr.get φ' 10 = .int .i64 ((j + 1 : Nat) : Int) →
        M (eval tbl noExt) (.code l_bound_known_steps_0 :: .blk 0 :: k) φ' (G ++ A) = X := fun φ' A h0 h5 h8 h9 h10 => by
      rw [eG]
      exact ih (j + 1) _ φ' _ hd1 e2 hlo.2 (by omega) (by omega) h0 h5 h8 h9 h10
    rw [l_bound_known_steps_0, M_loop, ← l_bound_known_steps_0]
    by_cases h14 : op = 14
    · have he : Sm.extB m.get (.mk op s n' e b c g) = n' * stepsB m.get b 0 := by simp [Sm.extB, h14]
      rw [he] at hw2 fin
      simp [b_bound_known_steps_0, h0, h5, h8, h9, h10, hlt, hj, hrl, hr, hr2, hw, hw1, hw2, hw3, h14, hg1]
      refine fin _ _ ?_ ?_ ?_ ?_ ?_
      all_goals simp [h0, h8, h9]
    by_cases h13 : op = 13
    · have he : Sm.extB m.get (.mk op s n' e b c g) = max (stepsB m.get b 0) (stepsB m.get c 0) := by simp [Sm.extB, h13]
      rw [he] at hw2 fin
      simp [b_bound_known_steps_0, h0, h5, h8, h9, h10, hlt, hj, hrl, hr, hr2, hw, hw1, hw2, hw3, h14, h13, hg1, hg2]
      refine fin _ _ ?_ ?_ ?_ ?_ ?_
      all_goals simp [h0, h8, h9]
    by_cases h16 : op = 16
    · have he : Sm.extB m.get (.mk op s n' e b c g) = b.length := by simp [Sm.extB, h16]
      rw [he] at hw2 fin
      simp [b_bound_known_steps_0, h0, h5, h8, h9, h10, hlt, hj, hrl, hr, hr2, hw, hw1, hw2, hw3, h14, h13, h16, hbl2]
      refine fin _ _ ?_ ?_ ?_ ?_ ?_
      all_goals simp [h0, h8, h9]
    by_cases h15 : op = 15
    · have he : Sm.extB m.get (.mk op s n' e b c g) = m.get s := by simp [Sm.extB, h15]
      rw [he] at hw2 fin
      simp [b_bound_known_steps_0, h0, h5, h8, h9, h10, hlt, hj, hrl, hr, hr2, hw, hw1, hw2, hw3, h14, h13, h16, h15, hmo, hlk, hkw, keyOf]
      refine fin _ _ ?_ ?_ ?_ ?_ ?_
      all_goals simp [h0, h8, h9]
    have he : Sm.extB m.get (.mk op s n' e b c g) = 0 := by simp [Sm.extB, h14, h13, h16, h15]
    rw [he] at hw2 fin
    simp only [Int.add_zero] at hw2 fin
    simp [b_bound_known_steps_0, h0, h5, h8, h9, h10, hlt, hj, hrl, hr, hr2, hw, hw1, hw2, hw3, h14, h13, h16, h15]
    refine fin _ _ ?_ ?_ ?_ ?_ ?_
    all_goals simp [h0, h8, h9]
theorem steps_step (i : Nat) (m : Mp) (hE : EnvB m.get) (G : Heap) (hm : G[i]? = some (some (mpc m))) (l : List Sm) (hlo : Sm.lows l = true) (hll : l.length ≤ 20000) (hbs : ∀ x ∈ l, ∀ b ∈ x.blocks, StpOK G i m.get b) :
    eval tbl noExt n_bound_known_steps [.mptr i, .sl 7 (Sm.rows l)] G = some (.int .i64 (stepsB m.get l 0), G) := by
  have hrl : (Sm.rows l).length = l.length := by rw [Sm.rows_eq]; simp
  have hloop := fun k X hexit φ T h0 h5 h8 h9 h10 => steps_loop G i m hm hE l hlo hll hbs k X hexit l 0 0 φ T rfl rfl hlo (by omega) (by omega) h0 h5 h8 h9 h10
  have hloop0 := fun k X hexit φ h0 h5 h8 h9 h10 => hloop k X hexit φ [] h0 h5 h8 h9 h10
  simp only [List.append_nil] at hloop0
  rw [eval_M rfl rfl t_bound_known_steps rfl]
  simp [c_bound_known_steps, hrl]
  refine hloop0 _ _ ?_ _ ?_ ?_ ?_ ?_ ?_
  · intro φ' T' h5
    simp [r_bound_known_steps_0, h5]
  all_goals simp
theorem low_mem {l : List Sm} (h : Sm.lows l = true) {x : Sm} (hx : x ∈ l) : x.low = true := by
  induction l with
  | nil => simp at hx
  | cons y l ih =>
    simp only [Sm.lows, Bool.and_eq_true] at h
    rcases List.mem_cons.1 hx with rfl | hx
    · exact h.1
    · exact ih h.2 hx
theorem steps_ok (i : Nat) (m : Mp) (hE : EnvB m.get) : ∀ (n : Nat) (l : List Sm) (H : Heap), Sm.sizes l ≤ n → n ≤ 20000 → Sm.lows l = true → H[i]? = some (some (mpc m)) → StpOK H i m.get l := by
  intro n
  induction n with
  | zero =>
    intro l H h _ hlo hm T
    have hl : l = [] := by
      have := Sm.sizes_ge l
      exact List.eq_nil_of_length_eq_zero (by omega)
    subst hl
    exact steps_step i m hE _ (getE_app hm T) [] hlo (by simp) (fun x hx => by simp at hx)
  | succ n ih =>
    intro l H h hn hlo hm T
    have hll := Sm.sizes_ge l
    refine steps_step i m hE _ (getE_app hm T) l hlo (by omega) fun x hx b hb => ?_
    have hsz := Sm.sizes_mem hx
    have hlx := low_mem hlo hx
    obtain ⟨op, s, n', e, b1, b2, g⟩ := x
    simp only [Sm.size] at hsz
    simp only [Sm.low, Bool.and_eq_true] at hlx
    simp only [Sm.blocks, List.mem_cons, List.not_mem_nil, or_false] at hb
    rcases hb with rfl | rfl
    · exact ih _ _ (by omega) (by omega) hlx.2.1 (getE_app hm T)
    · exact ih _ _ (by omega) (by omega) hlx.2.2 (getE_app hm T)
theorem map_put2 (a : Option (List V)) (m : Mp) (s : Nm) (v : Int) (A : Heap) : mapPut (a :: some (mpc m) :: A) false [.str] (.mptr 1) [.str s] (.int .i64 v) = some (a :: some (mpc (m.put s v)) :: A) := by
  have h := put_mp s v m
  have hm : mapOf (a :: some (mpc m) :: A) false [.str] (.mptr 1) = some (mks m, mvs m) := by simp [mapOf, mpc]
  simp [mapPut, hm, h, keyWell_str]
  rfl
theorem Steps_loop (p : Pg) (P : List (Nm × List Sm)) (hP : ∀ x ∈ P, Sm.lows x.2 = true ∧ Sm.sizes x.2 ≤ 20000) (hPl : P.length ≤ 20000) (k : List Item) (X : Option (V × Heap))
    (hexit : ∀ φ' T, Fr.get φ' 1 = .ptr 0 0 → Fr.get φ' 5 = .mptr 1 → M (eval tbl noExt) k φ' (some p.cells :: some (mpc (knownB P [])) :: T) = X) :
    ∀ (l : List (Nm × List Sm)) (j : Nat) (m : Mp) (φ : Fr) (T : Heap), P.drop j = l → knownB P [] = knownB l m → EnvB m.get → Fr.get φ 1 = .ptr 0 0 → Fr.get φ 5 = .mptr 1 →
      Fr.get φ 13 = .sl 2 (P.map fun x => [.str x.1, .sl 7 (Sm.rows x.2)]) → Fr.get φ 14 = .int .i64 P.length → Fr.get φ 15 = .int .i64 j → M (eval tbl noExt) (.code l_bound_Steps_0 :: .blk 0 :: k) φ (some p.cells :: some (mpc m) :: T) = X := by
  intro l
  induction l with
  | nil =>
    intro j m φ T hd e1 hE h1 h5 h13 h14 h15
    have hj : P.length ≤ j := by rw [← Nat.sub_eq_zero_iff_le, ← List.length_drop, hd]; rfl
    have hlt : ¬ ((j : Int) < P.length) := by omega
    rw [l_bound_Steps_0, M_loop, ← l_bound_Steps_0]
    simp [b_bound_Steps_0, h1, h5, h13, h14, h15, hlt]
    rw [show m = knownB P [] by rw [e1]; rfl]
    refine hexit _ _ ?_ ?_
    · simp [h1]
    · simp [h5]
  | cons x l ih =>
    intro j m φ T hd e1 hE h1 h5 h13 h14 h15
    have hj : j < P.length := by
      have : (P.drop j).length = l.length + 1 := by rw [hd]; rfl
      rw [List.length_drop] at this; omega
    have hlt : (j : Int) < P.length := by omega
    have hLx : P[j]? = some x := by rw [← List.head?_drop, hd]; rfl
    have hmem : x ∈ P := List.mem_of_getElem? hLx
    have hd1 : P.drop (j + 1) = l := by rw [← List.tail_drop, hd]; rfl
    have hw : IntKind.i64.wrap ((j : Int) + 1) = ((j + 1 : Nat) : Int) := by rw [w64 (by omega) (by omega)]; rfl
    obtain ⟨hlo, hsz⟩ := hP x hmem
    obtain ⟨nm, body⟩ := x
    simp only at hlo hsz
    have hr : (P.map fun x => [V.str x.1, .sl 7 (Sm.rows x.2)])[j]? = some [.str nm, .sl 7 (Sm.rows body)] := by rw [List.getElem?_map, hLx]; rfl
    have hr2 : ∀ h, P[j]'h = (nm, body) := fun h => by rw [List.getElem?_eq_getElem h] at hLx; exact Option.some.inj hLx
    have hst := fun A => steps_ok 1 m hE 20000 body [some p.cells, some (mpc m)] hsz (Nat.le_refl _) hlo rfl A
    simp only [List.cons_append, List.nil_append] at hst
    have hmp := fun v A => map_put2 (some p.cells) m nm v A
    have hsb := stepsB_low m.get hE body hlo 0 (by omega) (by omega)
    rw [l_bound_Steps_0, M_loop, ← l_bound_Steps_0]
    simp [b_bound_Steps_0, h1, h5, h13, h14, h15, hlt, hj, hr, hr2, hw, hst, hmp, keyOf]
    refine ih (j + 1) _ _ _ hd1 e1 (Mp.put_low hE nm hsb.1 hsb.2) ?_ ?_ ?_ ?_ ?_
    · simp [h1]
    · simp [h5]
    · simp [h13]
    · simp [h14]
    · simp
theorem typed_ok {p : Pg} (h : p.typed = (0, 0)) : p.ok = true := by
  unfold Pg.typed at h
  cases hb : p.ok with
  | true => rfl
  | false => rw [hb] at h; simp at h
theorem Pg.ok_lows {p : Pg} (hok : p.ok = true) (h : p.size ≤ 19000) : (∀ x ∈ p.procs, Sm.lows x.2 = true ∧ Sm.sizes x.2 ≤ 20000) ∧ Sm.lows p.main = true ∧ Sm.lows p.recover = true := by
  obtain ⟨h1, h2, h3, h4⟩ := p.ok_parts hok
  have hsz : p.size = p.psize + Sm.sizes p.main + Sm.sizes p.recover + p.osize := rfl
  have hp : ∀ x ∈ p.procs, Sm.sizes x.2 ≤ p.psize := by
    intro x hx
    have : ∀ l : List (Nm × List Sm), x ∈ l → Sm.sizes x.2 ≤ psz l := by
      intro l
      induction l with
      | nil => intro h; simp at h
      | cons y l ih =>
        intro h
        simp only [psz, List.map_cons, List.sum_cons] at ih ⊢
        rcases List.mem_cons.1 h with rfl | h
        · omega
        · have := ih h; omega
    exact this _ hx
  exact ⟨fun x hx => ⟨oks_lows (h1 x hx) (by have := hp x hx; omega), by have := hp x hx; omega⟩, oks_lows h3 (by omega), oks_lows h4 (by omega)⟩
theorem Steps_eq (p : Pg) (h : p.Fine) : eval tbl noExt n_bound_Steps [.agg p.cells] [] = some (.tup [.int .i64 p.stepsB.1, .int .i64 p.stepsB.2.1, .bool p.stepsB.2.2], []) := by
  have hf := bfine_eq p h
  have hsz := h.size
  have hpl := p.lens h.size
  have hszm : p.size = p.psize + Sm.sizes p.main + Sm.sizes p.recover + p.osize := rfl
  rw [eval_M rfl rfl t_bound_Steps rfl]
  unfold Pg.stepsB
  by_cases c : p.typed = (0, 0)
  · rw [decide_eq_true c] at hf
    rw [if_pos c]
    obtain ⟨hl1, hl2, hl3⟩ := Pg.ok_lows (typed_ok c) h.size
    have hE := knownB_low p.procs [] (fun x hx => (hl1 x hx).1) (fun s => by simp [Mp.get])
    have hloop := fun k X hexit φ T h1 h5 h13 h14 h15 => Steps_loop p p.procs hl1 (by omega) k X hexit p.procs 0 [] φ T rfl rfl (fun s => by simp [Mp.get]) h1 h5 h13 h14 h15
    have hs1 := fun A => steps_ok 1 _ hE 20000 p.main [some p.cells, some (mpc (knownB p.procs []))] (by omega) (Nat.le_refl _) hl2 rfl A
    have hs2 := fun A => steps_ok 1 _ hE 20000 p.recover [some p.cells, some (mpc (knownB p.procs []))] (by omega) (Nat.le_refl _) hl3 rfl A
    simp only [List.cons_append, List.nil_append] at hs1 hs2
    have hpc : p.pcells = p.procs.map fun x => [V.str x.1, .sl 7 (Sm.rows x.2)] := rfl
    have hpcl := p.pcells_len
    rw [show p.procs.map (fun x => [V.str x.1, .sl 7 (Sm.rows x.2)]) = p.pcells from rfl] at hloop
    simp only [Pg.cells] at hf hloop hs1 hs2 ⊢
    simp [c_bound_Steps, hf, hpcl]
    refine hloop _ _ ?_ _ [] ?_ ?_ ?_ ?_ ?_
    · intro φ' T h1 h5
      simp [r_bound_Steps_0, h1, h5, hs1, hs2]
    all_goals simp
  · rw [decide_eq_false c] at hf
    rw [if_neg c]
    simp only [Pg.cells] at hf ⊢
    simp [c_bound_Steps, hf]
end Go.AM.Spec
namespace Go.AM.Spec
set_option linter.unusedVariables false
set_option linter.unusedSimpArgs false
set_option maxHeartbeats 4000000
set_option maxRecDepth 10000
def deepF (k : Env) : List Sm → Int → Int
  | [], n => n
  | .mk op s _ _ _ _ _ :: l, n => deepF k l (if op = 15 then max n (k s) else n)
def callsP : List (Nm × List Sm) → Mp → List Int
  | [], _ => []
  | x :: l, m => (deepF m.get (Sm.flats x.2) 0 + 1) :: callsP l (m.put x.1 (deepF m.get (Sm.flats x.2) 0 + 1))
def irows (l : List Int) : List (List V) := l.map fun v => [V.int .i64 v]
theorem irows_len (l : List Int) : (irows l).length = l.length := by simp [irows]
theorem irows_at {l : List Int} {i : Nat} {v : Int} (h : l[i]? = some v) : (irows l)[i]? = some [.int .i64 v] := by simp [irows, h]
theorem deepF_low (k : Env) {b : Int} (hk : ∀ s, 0 ≤ k s ∧ k s ≤ b) : ∀ (l : List Sm) (n : Int), 0 ≤ n → n ≤ b → 0 ≤ deepF k l n ∧ deepF k l n ≤ b
  | [], n, h0, h1 => ⟨h0, h1⟩
  | .mk op s _ _ _ _ _ :: l, n, h0, h1 => by
    have := hk s
    unfold deepF
    split
    · exact deepF_low k hk l _ (by omega) (by omega)
    · exact deepF_low k hk l _ h0 h1
theorem deep_loop (H : Heap) (i : Nat) (m : Mp) (hm : H[i]? = some (some (mpc m))) (L : List Sm) (hl : L.length ≤ 20000) (k : List Item) (X : Option (V × Heap))
    (hexit : ∀ φ' T, Fr.get φ' 5 = .int .i64 (deepF m.get L 0) → M (eval tbl noExt) k φ' (H ++ T) = X) :
    ∀ (l : List Sm) (j : Nat) (n : Int) (φ : Fr) (T : Heap), L.drop j = l → deepF m.get L 0 = deepF m.get l n → Fr.get φ 0 = .mptr i → Fr.get φ 5 = .int .i64 n →
      Fr.get φ 10 = .sl 7 (Sm.rows L) → Fr.get φ 11 = .int .i64 L.length → Fr.get φ 12 = .int .i64 j → M (eval tbl noExt) (.code l_bound_known_deep_0 :: .blk 0 :: k) φ (H ++ T) = X := by
  intro l
  induction l with
  | nil =>
    intro j n φ T hd e1 h0 h5 h8 h9 h10
    have hj : L.length ≤ j := by rw [← Nat.sub_eq_zero_iff_le, ← List.length_drop, hd]; rfl
    have hlt : ¬ ((j : Int) < L.length) := by omega
    rw [l_bound_known_deep_0, M_loop, ← l_bound_known_deep_0]
    simp [b_bound_known_deep_0, h0, h5, h8, h9, h10, hlt]
    refine hexit _ _ ?_
    rw [e1]
    simp [h5, deepF]
  | cons x l ih =>
    intro j n φ T hd e1 h0 h5 h8 h9 h10
    have hj : j < L.length := by
      have : (L.drop j).length = l.length + 1 := by rw [hd]; rfl
      rw [List.length_drop] at this; omega
    have hlt : (j : Int) < L.length := by omega
    have hLx : L[j]? = some x := by rw [← List.head?_drop, hd]; rfl
    have hd1 : L.drop (j + 1) = l := by rw [← List.tail_drop, hd]; rfl
    have hw : IntKind.i64.wrap ((j : Int) + 1) = ((j + 1 : Nat) : Int) := by rw [w64 (by omega) (by omega)]; rfl
    have hrl : (Sm.rows L).length = L.length := by rw [Sm.rows_eq]; simp
    have hr : (Sm.rows L)[j]? = some x.cells := by rw [Sm.rows_eq, List.getElem?_map, hLx]; rfl
    have hr2 : ∀ h, (Sm.rows L)[j]'h = x.cells := fun h => by rw [List.getElem?_eq_getElem h] at hr; exact Option.some.inj hr
    obtain ⟨G, hG⟩ : ∃ G, G = H ++ T := ⟨_, rfl⟩
    have eG : ∀ A : Heap, G ++ A = H ++ (T ++ A) := fun A => by rw [hG, List.append_assoc]
    have hmo : ∀ A : Heap, mapOf (G ++ A) false [.str] (.mptr i) = some (mks m, mvs m) := fun A => by
      rw [eG]; simp [mapOf, getE_app hm, mpc]
    rw [← hG]
    obtain ⟨op, s, n', e, b, c, g⟩ := x
    have hlk := look_mp s m
    have hkw := keyWell_str s
    simp only [Sm.cells] at hr hr2
    rw [deepF] at e1
    rw [l_bound_known_deep_0, M_loop, ← l_bound_known_deep_0]
    by_cases h15 : op = 15
    · rw [if_pos h15] at e1
      simp [b_bound_known_deep_0, h0, h5, h8, h9, h10, hlt, hj, hrl, hr, hr2, hw, h15, hmo, hlk, hkw, keyOf]
      rw [eG]
      refine ih (j + 1) _ _ _ hd1 e1 ?_ ?_ ?_ ?_ ?_
      all_goals simp [h0, h8, h9]
    · rw [if_neg h15] at e1
      simp [b_bound_known_deep_0, h0, h5, h8, h9, h10, hlt, hj, hrl, hr, hr2, hw, h15]
      rw [eG]
      refine ih (j + 1) _ _ _ hd1 e1 ?_ ?_ ?_ ?_ ?_
      all_goals simp [h0, h5, h8, h9]
theorem deep_eq (H : Heap) (i : Nat) (m : Mp) (hm : H[i]? = some (some (mpc m))) (l : List Sm) (hl : Sm.sizes l ≤ 19000) : eval tbl noExt n_bound_known_deep [.mptr i, .sl 7 (Sm.rows l)] H = some (.int .i64 (deepF m.get (Sm.flats l) 0), H) := by
  let q : Pg := { procs := [], main := l, recover := [], oracles := [] }
  have hqs : q.size = Sm.sizes l := by simp [q, Pg.size, Pg.psize, Pg.osize, Sm.sizes]
  have hA := All_eq q (by omega)
  have hqf : q.flats = Sm.flats l := by simp [q, Pg.flats, Pg.parts]
  have hqc : q.cells = [.sl 2 [], .sl 7 (Sm.rows l), .sl 7 [], .sl 5 []] := by simp [q, Pg.cells, Pg.pcells, Pg.ocells, Sm.rows]
  rw [hqf, hqc] at hA
  clear_value q
  have hfl := Sm.flats_sizes l
  have hrl : (Sm.rows (Sm.flats l)).length = (Sm.flats l).length := by rw [Sm.rows_eq]; simp
  have hloop := fun k X hexit φ T h0 h5 h8 h9 h10 => deep_loop H i m hm (Sm.flats l) (by omega) k X hexit (Sm.flats l) 0 0 φ T rfl rfl h0 h5 h8 h9 h10
  have hloop0 := fun k X hexit φ h0 h5 h8 h9 h10 => hloop k X hexit φ [] h0 h5 h8 h9 h10
  simp only [List.append_nil] at hloop0
  rw [eval_M rfl rfl t_bound_known_deep rfl]
  simp [c_bound_known_deep, hA, hrl]
  refine hloop0 _ _ ?_ _ ?_ ?_ ?_ ?_ ?_
  · intro φ' T' h5
    simp [r_bound_known_deep_0, h5]
  all_goals simp
theorem Calls_loop (p : Pg) (P : List (Nm × List Sm)) (hP : ∀ x ∈ P, Sm.sizes x.2 ≤ 19000) (hPl : P.length ≤ 20000) (k : List Item) (X : Option (V × Heap))
    (hexit : ∀ φ' T m, Fr.get φ' 5 = .own 1 (irows (callsP P [])) → M (eval tbl noExt) k φ' (some p.cells :: some (mpc m) :: T) = X) :
    ∀ (l : List (Nm × List Sm)) (j : Nat) (m : Mp) (D : List Int) (φ : Fr) (T : Heap), P.drop j = l → callsP P [] = D ++ callsP l m → D.length = j → (∀ s, 0 ≤ m.get s ∧ m.get s ≤ j) → Fr.get φ 4 = .mptr 1 → Fr.get φ 5 = .own 1 (irows D) →
      Fr.get φ 14 = .sl 2 (P.map fun x => [.str x.1, .sl 7 (Sm.rows x.2)]) → Fr.get φ 15 = .int .i64 P.length → Fr.get φ 16 = .int .i64 j → M (eval tbl noExt) (.code l_bound_Calls_0 :: .blk 0 :: k) φ (some p.cells :: some (mpc m) :: T) = X := by
  intro l
  induction l with
  | nil =>
    intro j m D φ T hd e1 hD hE h4 h5 h13 h14 h15
    have hj : P.length ≤ j := by rw [← Nat.sub_eq_zero_iff_le, ← List.length_drop, hd]; rfl
    have hlt : ¬ ((j : Int) < P.length) := by omega
    rw [l_bound_Calls_0, M_loop, ← l_bound_Calls_0]
    simp [b_bound_Calls_0, h4, h5, h13, h14, h15, hlt]
    refine hexit _ _ _ ?_
    rw [e1]
    simp [h5, callsP]
  | cons x l ih =>
    intro j m D φ T hd e1 hD hE h4 h5 h13 h14 h15
    have hj : j < P.length := by
      have : (P.drop j).length = l.length + 1 := by rw [hd]; rfl
      rw [List.length_drop] at this; omega
    have hlt : (j : Int) < P.length := by omega
    have hLx : P[j]? = some x := by rw [← List.head?_drop, hd]; rfl
    have hmem : x ∈ P := List.mem_of_getElem? hLx
    have hd1 : P.drop (j + 1) = l := by rw [← List.tail_drop, hd]; rfl
    have hw : IntKind.i64.wrap ((j : Int) + 1) = ((j + 1 : Nat) : Int) := by rw [w64 (by omega) (by omega)]; rfl
    have hsz := hP x hmem
    obtain ⟨nm, body⟩ := x
    simp only at hsz
    have hr : (P.map fun x => [V.str x.1, .sl 7 (Sm.rows x.2)])[j]? = some [.str nm, .sl 7 (Sm.rows body)] := by rw [List.getElem?_map, hLx]; rfl
    have hr2 : ∀ h, P[j]'h = (nm, body) := fun h => by rw [List.getElem?_eq_getElem h] at hLx; exact Option.some.inj hLx
    have hst := fun A => deep_eq (some p.cells :: some (mpc m) :: A) 1 m rfl body hsz
    have hmp := fun v A => map_put2 (some p.cells) m nm v A
    have hsb := deepF_low m.get hE (Sm.flats body) 0 (by omega) (by omega)
    simp only [callsP] at e1
    generalize deepF m.get (Sm.flats body) 0 = z at hst hsb e1
    have hwz : IntKind.i64.wrap (z + 1) = z + 1 := w64 (by omega) (by omega)
    have hcap : 2 * (D.length + 1) * 8 ≤ 281474976710656 := by omega
    have hDl := irows_len D
    have hDn : irows D ++ [[V.int .i64 (z + 1)]] = irows (D ++ [z + 1]) := by simp [irows]
    rw [l_bound_Calls_0, M_loop, ← l_bound_Calls_0]
    simp [b_bound_Calls_0, h4, h5, h13, h14, h15, hlt, hj, hr, hr2, hw, hst, hmp, keyOf, hwz, hDl, hcap, hDn]
    refine ih (j + 1) _ (D ++ [z + 1]) _ _ hd1 (by rw [e1]; simp) (by simp [hD]) (fun s => ?_) ?_ ?_ ?_ ?_ ?_
    · rw [Mp.get_put]
      have := hE s
      split <;> omega
    · simp [h4]
    · simp
    · simp [h13]
    · simp [h14]
    · simp
theorem Pg.proc_sizes {p : Pg} : ∀ x ∈ p.procs, Sm.sizes x.2 ≤ p.psize := by
  intro x hx
  have : ∀ l : List (Nm × List Sm), x ∈ l → Sm.sizes x.2 ≤ psz l := by
    intro l
    induction l with
    | nil => intro h; simp at h
    | cons y l ih =>
      intro h
      simp only [psz, List.map_cons, List.sum_cons] at ih ⊢
      rcases List.mem_cons.1 h with rfl | h
      · omega
      · have := ih h; omega
  exact this _ hx
def Pg.callsB (p : Pg) : V := if p.typed = (0, 0) then .tup [.sl 1 (irows (callsP p.procs [])), .bool true] else .tup [.sl 1 [], .bool false]
theorem Calls_eq (p : Pg) (h : p.Fine) : eval tbl noExt n_bound_Calls [.agg p.cells] [] = some (p.callsB, []) := by
  have hf := bfine_eq p h
  have hsz := h.size
  have hpl := p.lens h.size
  have hszm : p.size = p.psize + Sm.sizes p.main + Sm.sizes p.recover + p.osize := rfl
  rw [eval_M rfl rfl t_bound_Calls rfl]
  unfold Pg.callsB
  by_cases c : p.typed = (0, 0)
  · rw [decide_eq_true c] at hf
    rw [if_pos c]
    have hloop := fun k X hexit φ T h4 h5 h13 h14 h15 => Calls_loop p p.procs (fun x hx => by have := Pg.proc_sizes x hx; omega) (by omega) k X hexit p.procs 0 [] [] φ T rfl rfl rfl (fun s => by simp [Mp.get]) h4 h5 h13 h14 h15
    rw [show p.procs.map (fun x => [V.str x.1, .sl 7 (Sm.rows x.2)]) = p.pcells from rfl] at hloop
    have hpcl := p.pcells_len
    simp only [Pg.cells] at hf hloop ⊢
    simp [c_bound_Calls, hf, hpcl]
    refine hloop _ _ ?_ _ [] ?_ ?_ ?_ ?_ ?_
    · intro φ' T m h5
      simp [r_bound_Calls_0, h5]
    all_goals simp [irows]
  · rw [decide_eq_false c] at hf
    rw [if_neg c]
    simp only [Pg.cells] at hf ⊢
    simp [c_bound_Calls, hf]
def Pg.pno (p : Pg) : Int := (Sm.flats (p.procs.map (·.2)).flatten).length
def Pg.chkB (p : Pg) : Flt :=
  if p.typed ≠ (0, 0) then p.typed else if p.stepsB.1 = 65537 then (13, p.pno) else if p.stepsB.2.1 = 65537 then (13, p.pno + (Sm.flats p.main).length) else (0, 0)
theorem bCheck_eq (p : Pg) (h : p.Fine) : eval tbl noExt n_bound_Check [.agg p.cells] [] = some (.agg [.int .i64 p.chkB.1, .int .i64 p.chkB.2], []) := by
  have hsz := h.size
  have hszm : p.size = p.psize + Sm.sizes p.main + Sm.sizes p.recover + p.osize := rfl
  obtain ⟨H', hC⟩ := Check_eq p h
  rw [Pg.chk_typed] at hC
  have hS := Steps_eq p h
  let q : Pg := { procs := p.procs, main := [], recover := [], oracles := [] }
  have hqs : q.size = p.psize := by simp [q, Pg.size, Pg.psize, Pg.osize, Sm.sizes]
  have hA := All_eq q (by omega)
  have hqf : ((Sm.rows q.flats).length : Int) = p.pno := by rw [Sm.rows_eq]; simp [q, Pg.flats, Pg.parts, Pg.pno, Sm.flats]
  have hqn : p.pno ≤ 20000 := by
    have h1 := Sm.flats_sizes q.flats
    have h2 := Sm.flats_sizes q.parts.flatten
    have h3 := q.parts_size
    have : (Sm.rows q.flats).length = (Sm.flats q.parts.flatten).length := by rw [Sm.rows_eq]; simp [Pg.flats]
    omega
  have hqc : q.cells = [.sl 2 p.pcells, .sl 7 [], .sl 7 [], .sl 5 []] := by simp [q, Pg.cells, Pg.pcells, Pg.ocells, Sm.rows]
  rw [hqc] at hA
  generalize Sm.rows q.flats = R at hA hqf
  clear_value q
  have hcm := Count_eq p.main (by omega) []
  have hfm := Sm.flats_sizes p.main
  have hp0 : 0 ≤ p.pno := by rw [← hqf]; omega
  have hw : IntKind.i64.wrap (p.pno + (Sm.flats p.main).length) = p.pno + (Sm.flats p.main).length := w64 (by omega) (by omega)
  unfold Pg.chkB
  generalize p.typed = f at hC ⊢
  generalize p.stepsB = r at hS ⊢
  generalize p.pno = z at hqf hw ⊢
  obtain ⟨a, b, o⟩ := r
  obtain ⟨f1, f2⟩ := f
  rw [eval_M rfl rfl t_bound_Check rfl]
  simp only [Pg.cells] at hC hS ⊢
  by_cases hf : f1 = 0 ∧ f2 = 0
  · obtain ⟨rfl, rfl⟩ := hf
    by_cases ha : 65537 = a
    · subst ha
      simp [c_bound_Check, hC, eqCells, hA, hS, hqf]
    · have ha' : ¬ a = 65537 := fun e => ha e.symm
      by_cases hb : 65537 = b
      · subst hb
        simp [c_bound_Check, hC, eqCells, hA, hS, hqf, ha, ha', hcm, hw]
      · have hb' : ¬ b = 65537 := fun e => hb e.symm
        simp [c_bound_Check, hC, eqCells, hA, hS, hqf, ha, ha', hb, hb']
  · have hf' : ¬ ((f1, f2) = ((0 : Int), (0 : Int))) := fun e => hf (by simpa using e)
    have hd : (decide (f1 = 0) && decide (f2 = 0)) = false := by
      by_cases h1 : f1 = 0
      · by_cases h2 : f2 = 0
        · exact absurd ⟨h1, h2⟩ hf
        · simp [h2]
      · simp [h1]
    rw [if_pos hf']
    simp [c_bound_Check, hC, eqCells, hd]
end Go.AM.Spec
namespace Go.AM.Spec
set_option linter.unusedVariables false
set_option linter.unusedSimpArgs false
set_option maxHeartbeats 1000000
set_option maxRecDepth 10000
theorem typed_nil {p : Pg} (h : p.typed.1 = 0) : p.typed = (0, 0) := by
  unfold Pg.typed at h ⊢
  cases hb : p.ok with
  | true =>
    rw [hb] at h
    exact (rkF_num p).2.resolve_right (by simpa using h)
  | false => rw [hb] at h; simp at h
def Dist : List Nm → List (Nm × List Sm) → Prop
  | _, [] => True
  | names, x :: l => hasN names x.1 = false ∧ Dist (names ++ [x.1]) l
theorem procsR_dist : ∀ (l : List (Nm × List Sm)) (names : List Nm) (no : Int), (procsR l names no).1 = (0, 0) → Dist names l
  | [], _, _, _ => trivial
  | x :: l, names, no, h => by
    unfold procsR at h
    split at h
    · simp at h
    · rename_i h1
      split at h
      · rename_i h2; simp only at h; rw [h] at h2; simp at h2
      · exact ⟨by simpa using h1, procsR_dist l _ _ h⟩
theorem typed_dist {p : Pg} (h : p.typed = (0, 0)) : Dist [] p.procs := by
  have hok := typed_ok h
  unfold Pg.typed at h
  rw [hok, if_pos rfl, rkF_rest] at h
  split at h
  · rename_i h1; rw [h] at h1; simp at h1
  · rename_i h1
    exact procsR_dist _ _ 0 ((procsR_num p.procs [] 0).2.resolve_right h1)
def Only (m : Mp) (names : List Nm) : Prop := ∀ s, hasN names s = false → m.get s = 0
theorem Only.nil : Only [] [] := fun s _ => rfl
theorem Only.put {m : Mp} {names : List Nm} (h : Only m names) (s : Nm) (v : Int) : Only (m.put s v) (names ++ [s]) := fun t ht => by
  simp only [hasN, List.any_append, List.any_cons, List.any_nil, Bool.or_false, Bool.or_eq_false_iff, decide_eq_false_iff_not] at ht
  rw [Mp.get_put, if_neg (fun e => ht.2 e.symm)]
  exact h t ht.1
def envK : List (Nm × List Sm) → List Int → Env
  | x :: P, v :: K, s => (if x.1 = s then v else 0) + envK P K s
  | _, _, _ => 0
theorem envK_nil (P : List (Nm × List Sm)) (s : Nm) : envK P [] s = 0 := by cases P <;> rfl
theorem envK_snoc : ∀ (A l : List (Nm × List Sm)) (x : Nm × List Sm) (K : List Int) (v : Int) (s : Nm), K.length = A.length → envK (A ++ x :: l) (K ++ [v]) s = envK (A ++ x :: l) K s + if x.1 = s then v else 0
  | [], l, x, [], v, s, _ => by simp [envK, envK_nil]
  | [], _, _, _ :: _, _, _, h => by simp at h
  | _ :: _, _, _, [], _, _, h => by simp at h
  | y :: A, l, x, u :: K, v, s, h => by
    simp only [List.cons_append, envK]
    rw [envK_snoc A l x K v s (by simpa using h)]
    omega
mutual
def Sm.callN (nm : Nm) : Sm → Bool
  | .mk op s _ _ b c _ => (decide (op = 15) && decide (s = nm)) || (Sm.callNs nm b || Sm.callNs nm c)
def Sm.callNs (nm : Nm) : List Sm → Bool
  | [] => false
  | x :: l => x.callN nm || Sm.callNs nm l
end
def isCall (nm : Nm) : Sm → Bool
  | .mk op s _ _ _ _ _ => decide (op = 15) && decide (s = nm)
mutual
theorem Sm.callN_flat (nm : Nm) : ∀ x : Sm, x.callN nm = x.flat.any (isCall nm)
  | .mk op s n e b c g => by
    simp only [Sm.callN, Sm.flat, List.any_cons, List.any_append, isCall, Sm.callNs_flats nm b, Sm.callNs_flats nm c]
theorem Sm.callNs_flats (nm : Nm) : ∀ l : List Sm, Sm.callNs nm l = (Sm.flats l).any (isCall nm)
  | [] => rfl
  | x :: l => by simp only [Sm.callNs, Sm.flats, List.any_append, Sm.callN_flat nm x, Sm.callNs_flats nm l]
end
def Sm.nm : Sm → Nm
  | .mk _ s _ _ _ _ _ => s
def foldC (b : List Sm) : List (Nm × Int) → Int → Int
  | [], n => n
  | z :: Z, n => foldC b Z (if Sm.callNs z.1 b = true then max n (z.2 + 1) else n)
theorem deepF_le (k : Env) (B : Int) : ∀ (l : List Sm) (n : Int), deepF k l n ≤ B ↔ n ≤ B ∧ ∀ x ∈ l, x.op = 15 → k x.nm ≤ B
  | [], n => by simp [deepF]
  | .mk op s m e b c g :: l, n => by
    unfold deepF
    rw [deepF_le k B l]
    simp only [List.mem_cons, forall_eq_or_imp, Sm.op, Sm.nm]
    by_cases h : op = 15
    · simp only [h, if_true, true_implies]
      constructor
      · rintro ⟨h1, h2⟩; exact ⟨by omega, by omega, h2⟩
      · rintro ⟨h1, h2, h3⟩; exact ⟨by omega, h3⟩
    · simp [h]
theorem foldC_le (b : List Sm) (B : Int) : ∀ (Z : List (Nm × Int)) (n : Int), foldC b Z n ≤ B ↔ n ≤ B ∧ ∀ z ∈ Z, Sm.callNs z.1 b = true → z.2 + 1 ≤ B
  | [], n => by simp [foldC]
  | z :: Z, n => by
    unfold foldC
    rw [foldC_le b B Z]
    simp only [List.mem_cons, forall_eq_or_imp]
    by_cases h : Sm.callNs z.1 b = true
    · simp only [h, if_true, true_implies]
      constructor
      · rintro ⟨h1, h2⟩; exact ⟨by omega, by omega, h2⟩
      · rintro ⟨h1, h2, h3⟩; exact ⟨by omega, h3⟩
    · simp [h]
def Tell (m : Mp) (Z : List (Nm × Int)) : Prop := (∀ z ∈ Z, m.get z.1 = z.2) ∧ ∀ s, m.get s ≠ 0 → ∃ z ∈ Z, z.1 = s ∧ z.2 = m.get s
theorem Tell.nil : Tell [] [] := ⟨fun z h => by simp at h, fun s h => by simp [Mp.get] at h⟩
theorem Tell.put {m : Mp} {Z : List (Nm × Int)} (h : Tell m Z) {s : Nm} (v : Int) (hs : m.get s = 0) (hz : ∀ z ∈ Z, z.1 ≠ s) : Tell (m.put s v) (Z ++ [(s, v)]) := by
  refine ⟨fun z hm => ?_, fun t ht => ?_⟩
  · rw [Mp.get_put]
    rcases List.mem_append.1 hm with hm | hm
    · rw [if_neg (hz z hm)]; exact h.1 z hm
    · simp only [List.mem_singleton] at hm
      subst hm; simp
  · rw [Mp.get_put] at ht ⊢
    by_cases e : t = s
    · subst e
      exact ⟨(t, v), by simp, rfl, by simp⟩
    · rw [if_neg e] at ht ⊢
      obtain ⟨z, h1, h2, h3⟩ := h.2 t ht
      exact ⟨z, by simp [h1], h2, h3⟩
theorem calls_same {m : Mp} {Z : List (Nm × Int)} (h : Tell m Z) (hm : ∀ s, 0 ≤ m.get s) (b : List Sm) : foldC b Z 1 = deepF m.get (Sm.flats b) 0 + 1 := by
  have key : ∀ B, foldC b Z 1 ≤ B ↔ deepF m.get (Sm.flats b) 0 + 1 ≤ B := by
    intro B
    rw [foldC_le, show deepF m.get (Sm.flats b) 0 + 1 ≤ B ↔ deepF m.get (Sm.flats b) 0 ≤ B - 1 by omega, deepF_le]
    constructor
    · rintro ⟨h1, h2⟩
      refine ⟨by omega, fun x hx h15 => ?_⟩
      by_cases h0 : m.get x.nm = 0
      · omega
      · obtain ⟨z, hz, e1, e2⟩ := h.2 _ h0
        have := h2 z hz (by
          rw [Sm.callNs_flats, List.any_eq_true]
          refine ⟨x, hx, ?_⟩
          obtain ⟨op, s, n, e, c, d, g⟩ := x
          simp only [Sm.op, Sm.nm] at h15 e1
          simp [isCall, h15, e1])
        omega
    · rintro ⟨h1, h2⟩
      refine ⟨by omega, fun z hz hc => ?_⟩
      rw [Sm.callNs_flats, List.any_eq_true] at hc
      obtain ⟨x, hx, hc⟩ := hc
      obtain ⟨op, s, n, e, c, d, g⟩ := x
      simp only [isCall, Bool.and_eq_true, decide_eq_true_eq] at hc
      have h3 := h2 _ hx hc.1
      simp only [Sm.nm] at h3
      have h4 := h.1 z hz
      rw [hc.2] at h3
      omega
  have h1 := (key _).2 (Int.le_refl _)
  have h2 := (key _).1 (Int.le_refl _)
  omega
end Go.AM.Spec
namespace Go.AM.Spec
set_option linter.unusedVariables false
set_option linter.unusedSimpArgs false
set_option maxHeartbeats 4000000
set_option maxRecDepth 10000
theorem envK_pos (s : Nm) : ∀ (P : List (Nm × List Sm)) (K : List Int), (∀ v ∈ K, 0 ≤ v) → 0 ≤ envK P K s
  | [], K, _ => by simp [envK]
  | _ :: _, [], _ => by simp [envK]
  | x :: P, v :: K, h => by
    have h1 := h v (by simp)
    have h2 := envK_pos s P K fun u hu => h u (by simp [hu])
    simp only [envK]
    split <;> omega
theorem Pg.browp {p : Pg} {j : Nat} {y : Nm × List Sm} (h : p.procs[j]? = some y) : p.pcells[j]? = some [.str y.1, .sl 7 (Sm.rows y.2)] := by
  simp [Pg.pcells, h]
theorem known_loop (p : Pg) (K : List Int) (hK : K.length ≤ p.procs.length) (hp : p.procs.length ≤ 20000) (hpos : ∀ v ∈ K, 0 ≤ v) (G : Heap) (hG : G[0]? = some (some p.cells)) (q : Nat) (op : Int) (s : Nm) (r : List V) (hq : G[q]? = some (some (.int .i64 op :: .str s :: r))) (N : Int) (hN : N ≤ 1000000) (v0 v8 : V) (k : List Item) (X : Option (V × Heap))
    (hexit : ∀ φ', Fr.get φ' 0 = v0 → Fr.get φ' 2 = .sl 1 (irows K) → Fr.get φ' 4 = .ptr 0 0 → Fr.get φ' 7 = .int .i64 N → Fr.get φ' 8 = v8 → M (eval tbl noExt) k φ' G = X) :
    ∀ (Kr : List Int) (Pr : List (Nm × List Sm)) (j : Nat) (n : Int) (φ : Fr), K.drop j = Kr → p.procs.drop j = Pr → N = n + envK Pr Kr s → 0 ≤ n →
      Fr.get φ 0 = v0 → Fr.get φ 2 = .sl 1 (irows K) → Fr.get φ 4 = .ptr 0 0 → Fr.get φ 7 = .int .i64 n → Fr.get φ 8 = v8 → Fr.get φ 9 = .ptr q 0 → Fr.get φ 10 = .int .i64 j →
      M (eval tbl noExt) (.code l_r20_steps_0 :: .blk 3 :: k) φ G = X := by
  have hKl := irows_len K
  intro Kr
  induction Kr with
  | nil =>
    intro Pr j n φ hd hdp e1 hn h0 h2 h4 h7 h8 h9 h10
    have hj : K.length ≤ j := by rw [← Nat.sub_eq_zero_iff_le, ← List.length_drop, hd]; rfl
    have hlt : ¬ ((j : Int) < K.length) := by omega
    rw [envK_nil, Int.add_zero] at e1
    subst e1
    rw [l_r20_steps_0, M_loop, ← l_r20_steps_0]
    simp [b_r20_steps_0, h0, h2, h4, h7, h8, h9, h10, hKl, hlt]
    refine hexit _ ?_ ?_ ?_ ?_ ?_
    all_goals simp [h0, h2, h4, h7, h8]
  | cons v Kr ih =>
    intro Pr j n φ hd hdp e1 hn h0 h2 h4 h7 h8 h9 h10
    have hj : j < K.length := by
      have : (K.drop j).length = Kr.length + 1 := by rw [hd]; rfl
      rw [List.length_drop] at this; omega
    have hlt : (j : Int) < K.length := by omega
    have hKv : K[j]? = some v := by rw [← List.head?_drop, hd]; rfl
    have hd1 : K.drop (j + 1) = Kr := by rw [← List.tail_drop, hd]; rfl
    have hjp : j < p.procs.length := by omega
    cases Pr with
    | nil =>
      have : (p.procs.drop j).length = 0 := by rw [hdp]; rfl
      rw [List.length_drop] at this; omega
    | cons y Pr =>
      have hPy : p.procs[j]? = some y := by rw [← List.head?_drop, hdp]; rfl
      have hdp1 : p.procs.drop (j + 1) = Pr := by rw [← List.tail_drop, hdp]; rfl
      have hw : IntKind.i64.wrap ((j : Int) + 1) = ((j + 1 : Nat) : Int) := by rw [w64 (by omega) (by omega)]; rfl
      have hv0 : 0 ≤ v := hpos v (List.mem_of_getElem? hKv)
      have hr := Pg.browp hPy
      have hr2 : ∀ h, p.pcells[j]'h = [.str y.1, .sl 7 (Sm.rows y.2)] := fun h => by rw [List.getElem?_eq_getElem h] at hr; exact Option.some.inj hr
      have hpl := p.pcells_len
      have hjpI : (j : Int) < p.procs.length := by omega
      have hkr := irows_at hKv
      have hkr2 : ∀ h, (irows K)[j]'h = [.int .i64 v] := fun h => by rw [List.getElem?_eq_getElem h] at hkr; exact Option.some.inj hkr
      have hpe := envK_pos s Pr Kr fun u hu => hpos u (List.mem_of_mem_drop (by rw [hd]; simp [hu]))
      simp only [envK] at e1
      simp only [Pg.cells] at hG
      rw [l_r20_steps_0, M_loop, ← l_r20_steps_0]
      by_cases hs : y.1 = s
      · rw [if_pos hs, ← Int.add_assoc] at e1
        have hwn : IntKind.i64.wrap (n + v) = n + v := w64 (by omega) (by omega)
        simp [b_r20_steps_0, h0, h2, h4, h7, h8, h9, h10, hKl, hlt, hj, hG, hq, hr, hr2, hpl, hjpI, hjp, hkr, hkr2, hs, hw, hwn]
        refine ih Pr (j + 1) _ _ hd1 hdp1 e1 (by omega) ?_ ?_ ?_ ?_ ?_ ?_ ?_
        all_goals simp [h0, h2, h4, h8, h9]
      · rw [if_neg hs, Int.zero_add] at e1
        simp [b_r20_steps_0, h0, h2, h4, h7, h8, h9, h10, hKl, hlt, hj, hG, hq, hr, hr2, hpl, hjpI, hjp, hs, hw]
        refine ih Pr (j + 1) _ _ hd1 hdp1 e1 hn ?_ ?_ ?_ ?_ ?_ ?_ ?_
        all_goals simp [h0, h2, h4, h7, h8, h9]
def RstOK (p : Pg) (K : List Int) (k : Env) (l : List Sm) : Prop := eval tbl noExt n_r20_steps [.sl 7 (Sm.rows l), .agg p.cells, .sl 1 (irows K)] [] = some (.int .i64 (stepsB k l 0), [])
theorem rsteps_loop (p : Pg) (K : List Int) (hK : K.length ≤ p.procs.length) (hp : p.procs.length ≤ 20000) (hpos : ∀ v ∈ K, 0 ≤ v) (e : Env) (hE : EnvB e) (hke : ∀ s, envK p.procs K s = e s) (L : List Sm) (hl : L.length ≤ 20000) (hb : ∀ x ∈ L, ∀ b ∈ x.blocks, RstOK p K e b) (k : List Item) (X : Option (V × Heap))
    (hexit : ∀ φ' T, Fr.get φ' 7 = .int .i64 (stepsB e L 0) → M (eval tbl noExt) k φ' (some p.cells :: T) = X) :
    ∀ (l : List Sm) (j : Nat) (n : Int) (φ : Fr) (T : Heap), L.drop j = l → stepsB e L 0 = stepsB e l n → Sm.lows l = true → 0 ≤ n → n ≤ 65537 → Fr.get φ 0 = .sl 7 (Sm.rows L) → Fr.get φ 2 = .sl 1 (irows K) → Fr.get φ 4 = .ptr 0 0 → Fr.get φ 7 = .int .i64 n → Fr.get φ 8 = .int .i64 j →
      M (eval tbl noExt) (.code l_r20_steps_1 :: .blk 0 :: k) φ (some p.cells :: T) = X := by
  have hrl : (Sm.rows L).length = L.length := by rw [Sm.rows_eq]; simp
  intro l
  induction l with
  | nil =>
    intro j n φ T hd e1 hlo hn0 hn1 h0 h2 h4 h7 h8
    have hj : L.length ≤ j := by rw [← Nat.sub_eq_zero_iff_le, ← List.length_drop, hd]; rfl
    have hlt : ¬ ((j : Int) < L.length) := by omega
    rw [l_r20_steps_1, M_loop, ← l_r20_steps_1]
    simp [b_r20_steps_1, h0, h2, h4, h7, h8, hrl, hlt]
    refine hexit _ _ ?_
    rw [e1]
    simp [h7, stepsB]
  | cons x l ih =>
    intro j n φ T hd e1 hlo hn0 hn1 h0 h2 h4 h7 h8
    have hj : j < L.length := by
      have : (L.drop j).length = l.length + 1 := by rw [hd]; rfl
      rw [List.length_drop] at this; omega
    have hlt : (j : Int) < L.length := by omega
    have hLx : L[j]? = some x := by rw [← List.head?_drop, hd]; rfl
    have hmem : x ∈ L := List.mem_of_getElem? hLx
    have hd1 : L.drop (j + 1) = l := by rw [← List.tail_drop, hd]; rfl
    have hw : IntKind.i64.wrap ((j : Int) + 1) = ((j + 1 : Nat) : Int) := by rw [w64 (by omega) (by omega)]; rfl
    have hr : (Sm.rows L)[j]? = some x.cells := by rw [Sm.rows_eq, List.getElem?_map, hLx]; rfl
    have hr2 : ∀ h, (Sm.rows L)[j]'h = x.cells := fun h => by rw [List.getElem?_eq_getElem h] at hr; exact Option.some.inj hr
    simp only [Sm.lows, Bool.and_eq_true] at hlo
    have hxe := Sm.ext_low e hE x hlo.1
    have e2 : stepsB e L 0 = stepsB e l (min (n + 1 + x.extB e) 65537) := by rw [e1, stepsB]
    have hxb := hb x hmem
    have hx1 := hlo.1
    have hxc0 := (Sm.strips x).1
    clear e1 hb
    obtain ⟨op, s, n', ee, b, c, g⟩ := x
    have hg1 := hxb b (by simp [Sm.blocks])
    have hg2 := hxb c (by simp [Sm.blocks])
    unfold RstOK at hg1 hg2
    have hw1 : IntKind.i64.wrap (n + 1) = n + 1 := w64 (by omega) (by omega)
    have hw2 : IntKind.i64.wrap (n + 1 + Sm.extB e (.mk op s n' ee b c g)) = n + 1 + Sm.extB e (.mk op s n' ee b c g) := w64 (by omega) (by omega)
    simp only [Sm.low, Bool.and_eq_true, decide_eq_true_eq] at hx1
    obtain ⟨⟨⟨hn'0, hn'1⟩, hbl⟩, hxb', hxc⟩ := hx1
    have hsb := stepsB_low e hE b hxb' 0 (by omega) (by omega)
    have hbl2 : (Sm.rows b).length = b.length := by rw [Sm.rows_eq]; simp
    have hw3 : IntKind.i64.wrap (n' * stepsB e b 0) = n' * stepsB e b 0 := by
      have h1 : n' * stepsB e b 0 ≤ 16 * 65537 := Int.mul_le_mul hn'1 hsb.2 hsb.1 (by omega)
      have h2 := Int.mul_nonneg hn'0 hsb.1
      exact w64 (by omega) (by omega)
    have hes := hE s
    have hks := hke s
    simp only [Sm.cells] at hr hr2
    have fin : ∀ (φ' : Fr) (T' : Heap), Fr.get φ' 0 = .sl 7 (Sm.rows L) → Fr.get φ' 2 = .sl 1 (irows K) → Fr.get φ' 4 = .ptr 0 0 → Fr.get φ' 7 = .int .i64 (min (n + 1 + Sm.extB e (.mk op s n' ee b c g)) 65537) → Fr.get φ' 8 = .int .i64 ((j + 1 : Nat) : Int) →
        M (eval tbl noExt) (.code l_r20_steps_1 :: .blk 0 :: k) φ' (some p.cells :: T') = X := fun φ' T' h0 h2 h4 h7 h8 =>
      ih (j + 1) _ φ' _ hd1 e2 hlo.2 (by omega) (by omega) h0 h2 h4 h7 h8
    have hknown := fun G hG q r hq N hN v0 v8 k X hexit φ => known_loop p K hK hp hpos G hG q op s r hq N hN v0 v8 k X hexit K p.procs 0 (n + 1) φ rfl rfl
    simp only [Pg.cells] at hg1 hg2 hknown fin ⊢
    rw [l_r20_steps_1, M_loop, ← l_r20_steps_1]
    by_cases h14 : op = 14
    · have he : Sm.extB e (.mk op s n' ee b c g) = n' * stepsB e b 0 := by simp [Sm.extB, h14]
      rw [he] at hw2 fin
      simp [b_r20_steps_1, r_r20_steps_0, r_r20_steps_1, h0, h2, h4, h7, h8, hlt, hj, hrl, hr, hr2, hw, hw1, hw2, hw3, h14, hg1]
      refine fin _ _ ?_ ?_ ?_ ?_ ?_
      all_goals simp [h0, h2, h4]
    by_cases h13 : op = 13
    · have he : Sm.extB e (.mk op s n' ee b c g) = max (stepsB e b 0) (stepsB e c 0) := by simp [Sm.extB, h13]
      rw [he] at hw2 fin
      simp [b_r20_steps_1, r_r20_steps_0, r_r20_steps_1, h0, h2, h4, h7, h8, hlt, hj, hrl, hr, hr2, hw, hw1, hw2, hw3, h14, h13, hg1, hg2]
      refine fin _ _ ?_ ?_ ?_ ?_ ?_
      all_goals simp [h0, h2, h4]
    by_cases h16 : op = 16
    · have he : Sm.extB e (.mk op s n' ee b c g) = b.length := by simp [Sm.extB, h16]
      rw [he] at hw2 fin
      simp [b_r20_steps_1, r_r20_steps_0, r_r20_steps_1, h0, h2, h4, h7, h8, hlt, hj, hrl, hr, hr2, hw, hw1, hw2, hw3, h14, h13, h16, hbl2]
      refine fin _ _ ?_ ?_ ?_ ?_ ?_
      all_goals simp [h0, h2, h4]
    by_cases h15 : op = 15
    · have he : Sm.extB e (.mk op s n' ee b c g) = e s := by simp [Sm.extB, h15]
      rw [he] at hw2 fin
      subst h15
      simp [b_r20_steps_1, h0, h2, h4, h7, h8, hlt, hj, hrl, hr, hr2, hw, hw1, hw2, hw3]
      refine hknown (some [.sl 2 p.pcells, .sl 7 (Sm.rows p.main), .sl 7 (Sm.rows p.recover), .sl 5 p.ocells] :: (T ++ [some [.int .i64 15, .str s, .int .i64 n', .sl 4 (Ex.rows ee), .sl 7 (Sm.rows b), .sl 7 (Sm.rows c), .bool g]])) rfl (T.length + 1) [.int .i64 n', .sl 4 (Ex.rows ee), .sl 7 (Sm.rows b), .sl 7 (Sm.rows c), .bool g] (by simp) (n + 1 + e s) (by omega) (.sl 7 (Sm.rows L)) (.int .i64 j) _ _ ?_ _ (by rw [hks]) (by omega) ?_ ?_ ?_ ?_ ?_ ?_ ?_
      · intro φ' g0 g2 g4 g7 g8
        simp [r_r20_steps_0, r_r20_steps_1, g0, g2, g4, g7, g8, hw]
        refine fin _ _ ?_ ?_ ?_ ?_ ?_
        all_goals simp [g0, g2, g4]
      all_goals simp [h0, h2, h4, h8]
    have he : Sm.extB e (.mk op s n' ee b c g) = 0 := by simp [Sm.extB, h14, h13, h16, h15]
    rw [he] at hw2 fin
    simp only [Int.add_zero] at hw2 fin
    simp [b_r20_steps_1, r_r20_steps_0, r_r20_steps_1, h0, h2, h4, h7, h8, hlt, hj, hrl, hr, hr2, hw, hw1, hw2, hw3, h14, h13, h16, h15]
    refine fin _ _ ?_ ?_ ?_ ?_ ?_
    all_goals simp [h0, h2, h4]
theorem rsteps_ok (p : Pg) (K : List Int) (hK : K.length ≤ p.procs.length) (hp : p.procs.length ≤ 20000) (hpos : ∀ v ∈ K, 0 ≤ v) (e : Env) (hE : EnvB e) (hke : ∀ s, envK p.procs K s = e s) :
    ∀ (n : Nat) (l : List Sm), Sm.sizes l ≤ n → n ≤ 20000 → Sm.lows l = true → RstOK p K e l := by
  have step : ∀ l : List Sm, l.length ≤ 20000 → Sm.lows l = true → (∀ x ∈ l, ∀ b ∈ x.blocks, RstOK p K e b) → RstOK p K e l := by
    intro l hll hlo hbs
    unfold RstOK
    have hloop := fun k X hexit φ T h0 h2 h4 h7 h8 => rsteps_loop p K hK hp hpos e hE hke l hll hbs k X hexit l 0 0 φ T rfl rfl hlo (by omega) (by omega) h0 h2 h4 h7 h8
    rw [eval_M rfl rfl t_r20_steps rfl]
    simp only [Pg.cells] at hloop ⊢
    simp [c_r20_steps]
    refine hloop _ _ ?_ _ [] ?_ ?_ ?_ ?_ ?_
    · intro φ' T h7
      simp [r_r20_steps_2, h7]
    all_goals simp
  intro n
  induction n with
  | zero =>
    intro l h _ hlo
    have hl : l = [] := by
      have := Sm.sizes_ge l
      exact List.eq_nil_of_length_eq_zero (by omega)
    subst hl
    exact step [] (by simp) hlo (fun x hx => by simp at hx)
  | succ n ih =>
    intro l h hn hlo
    have hll := Sm.sizes_ge l
    refine step l (by omega) hlo fun x hx b hb => ?_
    have hsz := Sm.sizes_mem hx
    have hlx := low_mem hlo hx
    obtain ⟨op, s, n', e, b1, b2, g⟩ := x
    simp only [Sm.size] at hsz
    simp only [Sm.low, Bool.and_eq_true] at hlx
    simp only [Sm.blocks, List.mem_cons, List.not_mem_nil, or_false] at hb
    rcases hb with rfl | rfl
    · exact ih _ (by omega) (by omega) hlx.2.1
    · exact ih _ (by omega) (by omega) hlx.2.2
theorem rSteps_loop (p : Pg) (hP : ∀ x ∈ p.procs, Sm.lows x.2 = true ∧ Sm.sizes x.2 ≤ 20000) (hp : p.procs.length ≤ 20000) (T : Heap) (k : List Item) (X : Option (V × Heap))
    (hexit : ∀ φ' K, K.length = p.procs.length → (∀ v ∈ K, 0 ≤ v) → (∀ s, envK p.procs K s = (knownB p.procs []).get s) → Fr.get φ' 1 = .ptr 0 0 → Fr.get φ' 6 = .own 1 (irows K) → M (eval tbl noExt) k φ' (some p.cells :: T) = X) :
    ∀ (l A : List (Nm × List Sm)) (m : Mp) (K : List Int) (names : List Nm) (φ : Fr), p.procs = A ++ l → K.length = A.length → (∀ v ∈ K, 0 ≤ v) → knownB p.procs [] = knownB l m → EnvB m.get → (∀ s, envK p.procs K s = m.get s) → Only m names → Dist names l →
      Fr.get φ 1 = .ptr 0 0 → Fr.get φ 6 = .own 1 (irows K) → Fr.get φ 7 = .int .i64 A.length → M (eval tbl noExt) (.code l_r20_Steps_0 :: .blk 0 :: k) φ (some p.cells :: T) = X := by
  have hpl := p.pcells_len
  intro l
  induction l with
  | nil =>
    intro A m K names φ hA hKl hpos e1 hE hk ho hD h1 h6 h7
    have hlen : p.procs.length = A.length := by rw [hA]; simp
    have hlt : ¬ ((A.length : Int) < p.procs.length) := by omega
    rw [l_r20_Steps_0, M_loop, ← l_r20_Steps_0]
    simp only [Pg.cells] at hexit ⊢
    simp [b_r20_Steps_0, h1, h6, h7, hpl, hlt]
    refine hexit _ K (by omega) hpos (fun s => by rw [hk, e1]; rfl) ?_ ?_
    · simp [h1]
    · simp [h6]
  | cons x l ih =>
    intro A m K names φ hA hKl hpos e1 hE hk ho hD h1 h6 h7
    have hlen : p.procs.length = A.length + (l.length + 1) := by rw [hA]; simp
    have hlt : (A.length : Int) < p.procs.length := by omega
    have hlt2 : A.length < p.procs.length := by omega
    have hx : p.procs[A.length]? = some x := by rw [hA, List.getElem?_append_right (Nat.le_refl _)]; simp
    have hw : IntKind.i64.wrap ((A.length : Int) + 1) = ((A.length + 1 : Nat) : Int) := by rw [w64 (by omega) (by omega)]; rfl
    have hr := Pg.browp hx
    have hr2 : ∀ h, p.pcells[A.length]'h = [.str x.1, .sl 7 (Sm.rows x.2)] := fun h => by rw [List.getElem?_eq_getElem h] at hr; exact Option.some.inj hr
    obtain ⟨hlo, hsz⟩ := hP x (by rw [hA]; simp)
    have hst := rsteps_ok p K (by omega) hp hpos m.get hE hk 20000 x.2 hsz (Nat.le_refl _) hlo
    unfold RstOK at hst
    have hsb := stepsB_low m.get hE x.2 hlo 0 (by omega) (by omega)
    obtain ⟨hD1, hD2⟩ := hD
    have e2 : knownB p.procs [] = knownB l (m.put x.1 (stepsB m.get x.2 0)) := e1
    generalize stepsB m.get x.2 0 = v at hst hsb e2
    have hcap : 2 * (K.length + 1) * 8 ≤ 281474976710656 := by omega
    have hKn := irows_len K
    have hKe : irows K ++ [[V.int .i64 v]] = irows (K ++ [v]) := by simp [irows]
    have hm0 := ho x.1 hD1
    rw [l_r20_Steps_0, M_loop, ← l_r20_Steps_0]
    simp only [Pg.cells] at hst ih ⊢
    simp [b_r20_Steps_0, h1, h6, h7, hpl, hlt, hlt2, hr, hr2, hst, hKn, hcap, hKe, hw]
    refine ih (A ++ [x]) (m.put x.1 v) (K ++ [v]) (names ++ [x.1]) _ (by rw [hA]; simp) (by simp [hKl]) (fun u hu => ?_) e2 (Mp.put_low hE x.1 hsb.1 hsb.2) (fun s => ?_) (ho.put x.1 v) hD2 ?_ ?_ ?_
    · rcases List.mem_append.1 hu with hu | hu
      · exact hpos u hu
      · simp only [List.mem_singleton] at hu; omega
    · rw [hA, envK_snoc A l x K v s hKl, ← hA, hk, Mp.get_put]
      by_cases e : s = x.1
      · subst e; simp [hm0]
      · have e' : ¬ x.1 = s := fun h => e h.symm
        simp [e, e']
    · simp [h1]
    · simp
    · simp
theorem rSteps_eq (p : Pg) (h : p.Fine) (hsz : p.size ≤ 600) : eval tbl noExt n_r20_Steps [.agg p.cells] [] = some (.tup [.int .i64 p.stepsB.1, .int .i64 p.stepsB.2.1, .bool p.stepsB.2.2], []) := by
  have hC := refCheck_eq p h hsz
  have hpl := p.lens h.size
  have hszm : p.size = p.psize + Sm.sizes p.main + Sm.sizes p.recover + p.osize := rfl
  rw [eval_M rfl rfl t_r20_Steps rfl]
  unfold Pg.stepsB
  by_cases c : p.typed = (0, 0)
  · rw [if_pos c]
    rw [c] at hC
    obtain ⟨hl1, hl2, hl3⟩ := Pg.ok_lows (typed_ok c) h.size
    have hE := knownB_low p.procs [] (fun x hx => (hl1 x hx).1) (fun s => by simp [Mp.get])
    have hloop := fun T k X hexit φ h1 h6 h7 => rSteps_loop p hl1 (by omega) T k X hexit p.procs [] [] [] [] φ rfl rfl (fun v hv => by simp at hv) rfl (fun s => by simp [Mp.get]) (fun s => by rw [envK_nil]; rfl) Only.nil (typed_dist c) h1 h6 h7
    have hrs := fun K (hK : K.length = p.procs.length) hpos hke => rsteps_ok p K (by omega) (by omega) hpos _ hE hke
    have hm := fun K hK hpos hke => hrs K hK hpos hke 20000 p.main (by omega) (Nat.le_refl _) hl2
    have hr := fun K hK hpos hke => hrs K hK hpos hke 20000 p.recover (by omega) (Nat.le_refl _) hl3
    unfold RstOK at hm hr
    simp only [Pg.cells] at hC hloop hm hr ⊢
    simp [c_r20_Steps, hC]
    refine hloop _ _ _ ?_ _ ?_ ?_ ?_
    · intro φ' K hK hpos hke h1 h6
      have a1 := hm K hK hpos hke
      have a2 := hr K hK hpos hke
      simp [r_r20_Steps_0, h1, h6, a1, a2]
    all_goals simp [irows]
  · rw [if_neg c]
    have c1 : ¬ p.typed.1 = 0 := fun e => c (typed_nil e)
    generalize p.typed = f at hC c1
    simp only [Pg.cells] at hC ⊢
    simp [c_r20_Steps, hC, c1]
end Go.AM.Spec
namespace Go.AM.Spec
set_option linter.unusedVariables false
set_option linter.unusedSimpArgs false
set_option maxHeartbeats 4000000
set_option maxRecDepth 10000
def CnOK (nm : Nm) (l : List Sm) : Prop := eval tbl noExt n_r20_calls [.sl 7 (Sm.rows l), .str nm] [] = some (.bool (Sm.callNs nm l), [])
theorem rcalls_loop (nm : Nm) (L : List Sm) (hl : L.length ≤ 100000) (hb : ∀ x ∈ L, ∀ b ∈ x.blocks, CnOK nm b) (k : List Item) (X : Option (V × Heap))
    (hret : ∀ φ', Sm.callNs nm L = true → Fr.get φ' 4 = .bool true → retK k φ' [] = X) (hexit : ∀ φ', Sm.callNs nm L = false → M (eval tbl noExt) k φ' [] = X) :
    ∀ (l : List Sm) (i : Nat) (φ : Fr), L.drop i = l → Sm.callNs nm L = Sm.callNs nm l → Fr.get φ 0 = .sl 7 (Sm.rows L) → Fr.get φ 1 = .str nm → Fr.get φ 5 = .int .i64 i →
      M (eval tbl noExt) (.code l_r20_calls_0 :: .blk 0 :: k) φ [] = X := by
  have hrl : (Sm.rows L).length = L.length := by rw [Sm.rows_eq]; simp
  intro l
  induction l with
  | nil =>
    intro i φ hd e1 h0 h1 h3
    have hi : L.length ≤ i := by rw [← Nat.sub_eq_zero_iff_le, ← List.length_drop, hd]; rfl
    have hlt : ¬ ((i : Int) < L.length) := by omega
    rw [l_r20_calls_0, M_loop, ← l_r20_calls_0]
    simp [b_r20_calls_0, h0, h1, h3, hrl, hlt]
    exact hexit _ e1
  | cons x l ih =>
    intro i φ hd e1 h0 h1 h3
    have hi : i < L.length := by
      have : (L.drop i).length = l.length + 1 := by rw [hd]; rfl
      rw [List.length_drop] at this; omega
    have hlt : (i : Int) < L.length := by omega
    have hLx : L[i]? = some x := by rw [← List.head?_drop, hd]; rfl
    have hmem : x ∈ L := List.mem_of_getElem? hLx
    have hd1 : L.drop (i + 1) = l := by rw [← List.tail_drop, hd]; rfl
    have hr : (Sm.rows L)[i]? = some x.cells := by rw [Sm.rows_eq, List.getElem?_map, hLx]; rfl
    have hr2 : ∀ h, (Sm.rows L)[i]'h = x.cells := fun h => by rw [List.getElem?_eq_getElem h] at hr; exact Option.some.inj hr
    have hw : IntKind.i64.wrap ((i : Int) + 1) = ((i + 1 : Nat) : Int) := by rw [w64 (by omega) (by omega)]; rfl
    have hbx := hb x hmem
    obtain ⟨op, s, n, e, b, c, g⟩ := x
    have hbb := hbx b (by simp [Sm.blocks])
    have hbc := hbx c (by simp [Sm.blocks])
    unfold CnOK at hbb hbc
    simp only [Sm.cells] at hr hr2
    rw [Sm.callNs, Sm.callN] at e1
    rw [l_r20_calls_0, M_loop, ← l_r20_calls_0]
    have rest : (decide (op = 15) && decide (s = nm)) = false → ∀ φ', Fr.get φ' 0 = .sl 7 (Sm.rows L) → True := fun _ _ _ => trivial
    clear rest
    by_cases h15 : op = 15
    · by_cases hs : s = nm
      · subst hs
        rw [decide_eq_true h15, decide_eq_true rfl, Bool.true_and, Bool.true_or, Bool.true_or] at e1
        simp [b_r20_calls_0, h0, h1, h3, hrl, hlt, hi, hr, hr2, h15]
        exact hret _ e1 (by simp)
      · rw [decide_eq_false hs, Bool.and_false, Bool.false_or] at e1
        cases hB : Sm.callNs nm b with
        | true =>
          rw [hB] at hbb e1
          rw [Bool.true_or, Bool.true_or] at e1
          simp [b_r20_calls_0, h0, h1, h3, hrl, hlt, hi, hr, hr2, h15, hs, hbb]
          exact hret _ e1 (by simp)
        | false =>
          rw [hB] at hbb e1
          rw [Bool.false_or] at e1
          cases hC : Sm.callNs nm c with
          | true =>
            rw [hC] at hbc e1
            rw [Bool.true_or] at e1
            simp [b_r20_calls_0, h0, h1, h3, hrl, hlt, hi, hr, hr2, h15, hs, hbb, hbc]
            exact hret _ e1 (by simp)
          | false =>
            rw [hC] at hbc e1
            rw [Bool.false_or] at e1
            simp [b_r20_calls_0, h0, h1, h3, hrl, hlt, hi, hr, hr2, h15, hs, hbb, hbc, hw]
            refine ih (i + 1) _ hd1 e1 ?_ ?_ ?_
            all_goals simp [h0, h1]
    · rw [decide_eq_false h15, Bool.false_and, Bool.false_or] at e1
      cases hB : Sm.callNs nm b with
      | true =>
        rw [hB] at hbb e1
        rw [Bool.true_or, Bool.true_or] at e1
        simp [b_r20_calls_0, h0, h1, h3, hrl, hlt, hi, hr, hr2, h15, hbb]
        exact hret _ e1 (by simp)
      | false =>
        rw [hB] at hbb e1
        rw [Bool.false_or] at e1
        cases hC : Sm.callNs nm c with
        | true =>
          rw [hC] at hbc e1
          rw [Bool.true_or] at e1
          simp [b_r20_calls_0, h0, h1, h3, hrl, hlt, hi, hr, hr2, h15, hbb, hbc]
          exact hret _ e1 (by simp)
        | false =>
          rw [hC] at hbc e1
          rw [Bool.false_or] at e1
          simp [b_r20_calls_0, h0, h1, h3, hrl, hlt, hi, hr, hr2, h15, hbb, hbc, hw]
          refine ih (i + 1) _ hd1 e1 ?_ ?_ ?_
          all_goals simp [h0, h1]
theorem rcalls_eq (nm : Nm) : ∀ (n : Nat) (l : List Sm), Sm.sizes l ≤ n → n ≤ 100000 → CnOK nm l := by
  have step : ∀ l : List Sm, l.length ≤ 100000 → (∀ x ∈ l, ∀ b ∈ x.blocks, CnOK nm b) → CnOK nm l := by
    intro l hl hb
    unfold CnOK
    have hloop := fun k X hret hexit φ h0 h1 h3 => rcalls_loop nm l hl hb k X hret hexit l 0 φ rfl rfl h0 h1 h3
    rw [eval_M rfl rfl t_r20_calls rfl]
    simp [c_r20_calls]
    refine hloop _ _ ?_ ?_ _ ?_ ?_ ?_
    · intro φ' hc h4
      simp [hc, h4]
    · intro φ' hc
      simp [r_r20_calls_0, hc]
    all_goals simp
  intro n
  induction n with
  | zero =>
    intro l h _
    have hl : l = [] := by
      have := Sm.sizes_ge l
      exact List.eq_nil_of_length_eq_zero (by omega)
    subst hl
    exact step [] (by simp) (fun x hx => by simp at hx)
  | succ n ih =>
    intro l h hn
    have hll := Sm.sizes_ge l
    refine step l (by omega) fun x hx b hb => ?_
    have hsz := Sm.sizes_mem hx
    obtain ⟨op, s, n', e, b1, b2, g⟩ := x
    simp only [Sm.size] at hsz
    simp only [Sm.blocks, List.mem_cons, List.not_mem_nil, or_false] at hb
    rcases hb with rfl | rfl
    · exact ih _ (by omega) (by omega)
    · exact ih _ (by omega) (by omega)
theorem rCalls_in (p : Pg) (hp : p.procs.length ≤ 20000) (hP : ∀ x ∈ p.procs, Sm.sizes x.2 ≤ 20000) (D : List Int) (A l : List (Nm × List Sm)) (x : Nm × List Sm) (hA : p.procs = A ++ x :: l) (hD : D.length = A.length) (hD0 : ∀ v ∈ D, 0 ≤ v ∧ v ≤ 20000) (T : Heap) (N : Int) (k : List Item) (X : Option (V × Heap))
    (hexit : ∀ φ', Fr.get φ' 1 = .ptr 0 0 → Fr.get φ' 5 = .own 1 (irows D) → Fr.get φ' 6 = .int .i64 A.length → Fr.get φ' 7 = .int .i64 N → M (eval tbl noExt) k φ' (some p.cells :: T) = X) :
    ∀ (B : List (Nm × List Sm)) (Dr : List Int) (j : Nat) (n : Int) (φ : Fr), A.drop j = B → D.drop j = Dr → N = foldC x.2 ((B.map (·.1)).zip Dr) n →
      Fr.get φ 1 = .ptr 0 0 → Fr.get φ 5 = .own 1 (irows D) → Fr.get φ 6 = .int .i64 A.length → Fr.get φ 7 = .int .i64 n → Fr.get φ 8 = .int .i64 j →
      M (eval tbl noExt) (.code l_r20_Calls_0 :: .blk 2 :: k) φ (some p.cells :: T) = X := by
  have hpl := p.pcells_len
  have hDl := irows_len D
  intro B
  induction B with
  | nil =>
    intro Dr j n φ hd hdD e1 h1 h5 h6 h7 h8
    have hj : A.length ≤ j := by rw [← Nat.sub_eq_zero_iff_le, ← List.length_drop, hd]; rfl
    have hlt : ¬ ((j : Int) < A.length) := by omega
    simp only [List.map_nil, List.zip_nil_left, foldC] at e1
    subst e1
    rw [l_r20_Calls_0, M_loop, ← l_r20_Calls_0]
    simp [b_r20_Calls_0, h1, h5, h6, h7, h8, hlt]
    refine hexit _ ?_ ?_ ?_ ?_
    all_goals simp [h1, h5, h6, h7]
  | cons y B ih =>
    intro Dr j n φ hd hdD e1 h1 h5 h6 h7 h8
    have hj : j < A.length := by
      have : (A.drop j).length = B.length + 1 := by rw [hd]; rfl
      rw [List.length_drop] at this; omega
    have hlt : (j : Int) < A.length := by omega
    have hAy : A[j]? = some y := by rw [← List.head?_drop, hd]; rfl
    have hd1 : A.drop (j + 1) = B := by rw [← List.tail_drop, hd]; rfl
    have hlen : p.procs.length = A.length + (l.length + 1) := by rw [hA]; simp
    cases Dr with
    | nil =>
      have : (D.drop j).length = 0 := by rw [hdD]; rfl
      rw [List.length_drop] at this; omega
    | cons v Dr =>
      have hDv : D[j]? = some v := by rw [← List.head?_drop, hdD]; rfl
      have hdD1 : D.drop (j + 1) = Dr := by rw [← List.tail_drop, hdD]; rfl
      have hv := hD0 v (List.mem_of_getElem? hDv)
      have hw : IntKind.i64.wrap ((j : Int) + 1) = ((j + 1 : Nat) : Int) := by rw [w64 (by omega) (by omega)]; rfl
      have hwv : IntKind.i64.wrap (v + 1) = v + 1 := w64 (by omega) (by omega)
      have hpy : p.procs[j]? = some y := by rw [hA, List.getElem?_append_left hj, hAy]
      have hpx : p.procs[A.length]? = some x := by rw [hA, List.getElem?_append_right (Nat.le_refl _)]; simp
      have hr := Pg.browp hpy
      have hr2 : ∀ h, p.pcells[j]'h = [.str y.1, .sl 7 (Sm.rows y.2)] := fun h => by rw [List.getElem?_eq_getElem h] at hr; exact Option.some.inj hr
      have hx := Pg.browp hpx
      have hx2 : ∀ h, p.pcells[A.length]'h = [.str x.1, .sl 7 (Sm.rows x.2)] := fun h => by rw [List.getElem?_eq_getElem h] at hx; exact Option.some.inj hx
      have hj1 : (j : Int) < p.procs.length := by omega
      have hj2 : j < p.procs.length := by omega
      have hj3 : (A.length : Int) < p.procs.length := by omega
      have hj4 : A.length < p.procs.length := by omega
      have hj5 : j < D.length := by omega
      have hj6 : (j : Int) < D.length := by omega
      have hkr := irows_at hDv
      have hkr2 : ∀ h, (irows D)[j]'h = [.int .i64 v] := fun h => by rw [List.getElem?_eq_getElem h] at hkr; exact Option.some.inj hkr
      have hc := rcalls_eq y.1 20000 x.2 (hP x (by rw [hA]; simp)) (by omega)
      unfold CnOK at hc
      simp only [List.map_cons, List.zip_cons_cons, foldC] at e1
      simp only [Pg.cells] at ih ⊢
      rw [l_r20_Calls_0, M_loop, ← l_r20_Calls_0]
      cases hcc : Sm.callNs y.1 x.2 with
      | true =>
        rw [hcc] at hc
        rw [if_pos hcc] at e1
        simp [b_r20_Calls_0, h1, h5, h6, h7, h8, hlt, hpl, hr, hr2, hx, hx2, hj1, hj2, hj3, hj4, hc, hDl, hj5, hj6, hkr, hkr2, hw, hwv]
        refine ih Dr (j + 1) _ _ hd1 hdD1 e1 ?_ ?_ ?_ ?_ ?_
        all_goals simp [h1, h5, h6]
      | false =>
        rw [hcc] at hc
        rw [if_neg (by rw [hcc]; simp)] at e1
        simp [b_r20_Calls_0, h1, h5, h6, h7, h8, hlt, hpl, hr, hr2, hx, hx2, hj1, hj2, hj3, hj4, hc, hw]
        refine ih Dr (j + 1) _ _ hd1 hdD1 e1 ?_ ?_ ?_ ?_ ?_
        all_goals simp [h1, h5, h6, h7]
theorem zip_snoc {α β : Type} : ∀ (A : List α) (D : List β) (a : α) (v : β), A.length = D.length → (A ++ [a]).zip (D ++ [v]) = A.zip D ++ [(a, v)]
  | [], [], _, _, _ => rfl
  | [], _ :: _, _, _, h => by simp at h
  | _ :: _, [], _, _, h => by simp at h
  | x :: A, y :: D, a, v, h => by simp only [List.cons_append, List.zip_cons_cons, zip_snoc A D a v (by simpa using h)]
theorem rCalls_loop (p : Pg) (hp : p.procs.length ≤ 10000) (hP : ∀ x ∈ p.procs, Sm.sizes x.2 ≤ 20000) (T : Heap) (k : List Item) (X : Option (V × Heap))
    (hexit : ∀ φ', Fr.get φ' 5 = .own 1 (irows (callsP p.procs [])) → M (eval tbl noExt) k φ' (some p.cells :: T) = X) :
    ∀ (l A : List (Nm × List Sm)) (m : Mp) (D : List Int) (names : List Nm) (φ : Fr), p.procs = A ++ l → D.length = A.length → (∀ v ∈ D, 0 ≤ v ∧ v ≤ 20000) → callsP p.procs [] = D ++ callsP l m → (∀ s, 0 ≤ m.get s ∧ m.get s ≤ A.length) → Tell m ((A.map (·.1)).zip D) → (∀ x ∈ A, hasN names x.1 = true) → Only m names → Dist names l →
      Fr.get φ 1 = .ptr 0 0 → Fr.get φ 5 = .own 1 (irows D) → Fr.get φ 6 = .int .i64 A.length → M (eval tbl noExt) (.code l_r20_Calls_1 :: .blk 0 :: k) φ (some p.cells :: T) = X := by
  have hpl := p.pcells_len
  intro l
  induction l with
  | nil =>
    intro A m D names φ hA hD hD0 e1 hE hT hAn ho hDi h1 h5 h6
    have hlen : p.procs.length = A.length := by rw [hA]; simp
    have hlt : ¬ ((A.length : Int) < p.procs.length) := by omega
    simp only [callsP, List.append_nil] at e1
    rw [l_r20_Calls_1, M_loop, ← l_r20_Calls_1]
    simp only [Pg.cells] at hexit ⊢
    simp [b_r20_Calls_1, h1, h5, h6, hpl, hlt]
    refine hexit _ ?_
    rw [e1]; simp [h5]
  | cons x l ih =>
    intro A m D names φ hA hD hD0 e1 hE hT hAn ho hDi h1 h5 h6
    have hlen : p.procs.length = A.length + (l.length + 1) := by rw [hA]; simp
    have hlt : (A.length : Int) < p.procs.length := by omega
    have hw : IntKind.i64.wrap ((A.length : Int) + 1) = ((A.length + 1 : Nat) : Int) := by rw [w64 (by omega) (by omega)]; rfl
    obtain ⟨hDi1, hDi2⟩ := hDi
    have hf := calls_same hT (fun s => (hE s).1) x.2
    have hlow := deepF_low m.get hE (Sm.flats x.2) 0 (by omega) (by omega)
    simp only [callsP] at e1
    have hin := fun k X hexit φ h1 h5 h6 h7 h8 => rCalls_in p (by omega) hP D A l x hA hD hD0 T (deepF m.get (Sm.flats x.2) 0 + 1) k X hexit A D 0 1 φ rfl rfl hf.symm h1 h5 h6 h7 h8
    obtain ⟨z, hzd⟩ : ∃ z, z = deepF m.get (Sm.flats x.2) 0 + 1 := ⟨_, rfl⟩
    rw [← hzd] at hin e1 hf
    have hz : 0 ≤ z ∧ z ≤ 20000 ∧ z ≤ (A.length : Int) + 1 := by omega
    have hcap : 2 * (D.length + 1) * 8 ≤ 281474976710656 := by omega
    have hDn := irows_len D
    have hDe : irows D ++ [[V.int .i64 z]] = irows (D ++ [z]) := by simp [irows]
    rw [l_r20_Calls_1, M_loop, ← l_r20_Calls_1]
    simp only [Pg.cells] at hin ih ⊢
    simp [b_r20_Calls_1, h1, h5, h6, hpl, hlt]
    refine hin _ _ ?_ _ ?_ ?_ ?_ ?_ ?_
    · intro φ' g1 g5 g6 g7
      simp [r_r20_Calls_0, r_r20_Calls_1, g1, g5, g6, g7, hDn, hcap, hDe, hw]
      refine ih (A ++ [x]) (m.put x.1 z) (D ++ [z]) (names ++ [x.1]) _ (by rw [hA]; simp) (by simp [hD]) (fun v hv => ?_) (by rw [e1]; simp) (fun s => ?_) ?_ (fun y hy => ?_) (ho.put x.1 z) hDi2 ?_ ?_ ?_
      · rcases List.mem_append.1 hv with hv | hv
        · exact hD0 v hv
        · simp only [List.mem_singleton] at hv; omega
      · rw [Mp.get_put]
        have := hE s
        simp only [List.length_append, List.length_cons, List.length_nil]
        split <;> omega
      · rw [List.map_append, List.map_cons, List.map_nil, zip_snoc _ _ _ _ (by simp [hD])]
        refine hT.put z (ho x.1 hDi1) fun w hw' e => ?_
        have h1 := (List.of_mem_zip hw').1
        rw [e] at h1
        obtain ⟨y, hy, hy2⟩ := List.mem_map.1 h1
        have := hAn y hy
        rw [hy2, hDi1] at this; cases this
      · simp only [hasN, List.any_append, Bool.or_eq_true]
        rcases List.mem_append.1 hy with hy | hy
        · exact .inl (hAn y hy)
        · simp only [List.mem_singleton] at hy
          subst hy; right; simp
      · simp [g1]
      · simp
      · simp
    all_goals simp [h1, h5, h6]
theorem rCalls_eq (p : Pg) (h : p.Fine) (hsz : p.size ≤ 600) : eval tbl noExt n_r20_Calls [.agg p.cells] [] = some (p.callsB, []) := by
  have hC := refCheck_eq p h hsz
  have hszm : p.size = p.psize + Sm.sizes p.main + Sm.sizes p.recover + p.osize := rfl
  have hpl : p.procs.length ≤ psz p.procs := by
    have : ∀ l : List (Nm × List Sm), l.length ≤ psz l := by
      intro l
      induction l with
      | nil => simp [psz]
      | cons y l ih => simp only [psz, List.map_cons, List.sum_cons, List.length_cons] at ih ⊢; omega
    exact this _
  have hps : psz p.procs = p.psize := rfl
  rw [eval_M rfl rfl t_r20_Calls rfl]
  unfold Pg.callsB
  by_cases c : p.typed = (0, 0)
  · rw [if_pos c]
    rw [c] at hC
    have hloop := fun T k X hexit φ h1 h5 h6 => rCalls_loop p (by omega) (fun x hx => by have := Pg.proc_sizes x hx; omega) T k X hexit p.procs [] [] [] [] φ rfl rfl (fun v hv => by simp at hv) rfl (fun s => by simp [Mp.get]) Tell.nil (fun x hx => by simp at hx) Only.nil (typed_dist c) h1 h5 h6
    simp only [Pg.cells] at hC hloop ⊢
    simp [c_r20_Calls, hC]
    refine hloop _ _ _ ?_ _ ?_ ?_ ?_
    · intro φ' h5
      simp [r_r20_Calls_2, h5]
    all_goals simp [irows]
  · rw [if_neg c]
    have c1 : ¬ p.typed.1 = 0 := fun e => c (typed_nil e)
    generalize p.typed = f at hC c1
    simp only [Pg.cells] at hC ⊢
    simp [c_r20_Calls, hC, c1]
theorem rCheck_loop (p : Pg) (hP : ∀ x ∈ p.procs, Sm.sizes x.2 ≤ 1000) (hp : p.procs.length ≤ 1000) (N : Int) (hN : N ≤ 100000) (a b : Int) (T : Heap) (k : List Item) (X : Option (V × Heap))
    (hexit : ∀ φ', Fr.get φ' 1 = .ptr 0 0 → Fr.get φ' 2 = .ptr 1 0 → Fr.get φ' 4 = .int .i64 a → Fr.get φ' 5 = .int .i64 b → Fr.get φ' 7 = .int .i64 N → M (eval tbl noExt) k φ' (some p.cells :: T) = X) :
    ∀ (l : List (Nm × List Sm)) (j : Nat) (n : Int) (φ : Fr), p.procs.drop j = l → N = n + ((Sm.flats (l.map (·.2)).flatten).length : Nat) → 0 ≤ n →
      Fr.get φ 1 = .ptr 0 0 → Fr.get φ 2 = .ptr 1 0 → Fr.get φ 4 = .int .i64 a → Fr.get φ 5 = .int .i64 b → Fr.get φ 7 = .int .i64 n → Fr.get φ 8 = .int .i64 j →
      M (eval tbl noExt) (.code l_r20_Check_0 :: .blk 0 :: k) φ (some p.cells :: T) = X := by
  have hpl := p.pcells_len
  intro l
  induction l with
  | nil =>
    intro j n φ hd e1 hn h1 h2 h4 h5 h7 h8
    have hj : p.procs.length ≤ j := by rw [← Nat.sub_eq_zero_iff_le, ← List.length_drop, hd]; rfl
    have hlt : ¬ ((j : Int) < p.procs.length) := by omega
    simp only [List.map_nil, List.flatten_nil, Sm.flats, List.length_nil] at e1
    have e1 : N = n := by omega
    subst e1
    simp only [Pg.cells] at hexit ⊢
    rw [l_r20_Check_0, M_loop, ← l_r20_Check_0]
    simp [b_r20_Check_0, h1, h2, h4, h5, h7, h8, hpl, hlt]
    refine hexit _ ?_ ?_ ?_ ?_ ?_
    all_goals simp [h1, h2, h4, h5, h7]
  | cons x l ih =>
    intro j n φ hd e1 hn h1 h2 h4 h5 h7 h8
    have hj : j < p.procs.length := by
      have : (p.procs.drop j).length = l.length + 1 := by rw [hd]; rfl
      rw [List.length_drop] at this; omega
    have hlt : (j : Int) < p.procs.length := by omega
    have hLx : p.procs[j]? = some x := by rw [← List.head?_drop, hd]; rfl
    have hd1 : p.procs.drop (j + 1) = l := by rw [← List.tail_drop, hd]; rfl
    have hw : IntKind.i64.wrap ((j : Int) + 1) = ((j + 1 : Nat) : Int) := by rw [w64 (by omega) (by omega)]; rfl
    have hr := Pg.browp hLx
    have hr2 : ∀ h, p.pcells[j]'h = [.str x.1, .sl 7 (Sm.rows x.2)] := fun h => by rw [List.getElem?_eq_getElem h] at hr; exact Option.some.inj hr
    have hc := refCount_ok 1000 x.2 (hP x (List.mem_of_getElem? hLx)) (Nat.le_refl _)
    simp only [List.map_cons, List.flatten_cons, Sm.flats_append, List.length_append] at e1
    have hwn : IntKind.i64.wrap (n + (Sm.flats x.2).length) = n + (Sm.flats x.2).length := w64 (by omega) (by omega)
    simp only [Pg.cells] at ih ⊢
    rw [l_r20_Check_0, M_loop, ← l_r20_Check_0]
    simp [b_r20_Check_0, h1, h2, h4, h5, h7, h8, hpl, hlt, hj, hr, hr2, hc, hw, hwn]
    refine ih (j + 1) (n + (Sm.flats x.2).length) _ hd1 (by omega) (by omega) ?_ ?_ ?_ ?_ ?_ ?_
    all_goals simp [h1, h2, h4, h5]
theorem rbCheck_eq (p : Pg) (h : p.Fine) (hsz : p.size ≤ 600) : eval tbl noExt n_r20_Check [.agg p.cells] [] = some (.agg [.int .i64 p.chkB.1, .int .i64 p.chkB.2], []) := by
  have hC := refCheck_eq p h hsz
  have hS := rSteps_eq p h hsz
  have hszm : p.size = p.psize + Sm.sizes p.main + Sm.sizes p.recover + p.osize := rfl
  have hpl : p.procs.length ≤ psz p.procs := by
    have : ∀ l : List (Nm × List Sm), l.length ≤ psz l := by
      intro l
      induction l with
      | nil => simp [psz]
      | cons y l ih => simp only [psz, List.map_cons, List.sum_cons, List.length_cons] at ih ⊢; omega
    exact this _
  have hps : psz p.procs = p.psize := rfl
  have hfm := Sm.flats_sizes p.main
  have hpn : p.pno ≤ 20000 := by
    have hsub := Sm.flats_sizes (p.procs.map (·.2)).flatten
    have : Sm.sizes (p.procs.map (·.2)).flatten ≤ psz p.procs := by
      clear hpl hps hS hC hsub
      induction p.procs with
      | nil => simp [psz, Sm.sizes]
      | cons y l ih =>
        simp only [List.map_cons, List.flatten_cons, sizes_append, psz, List.sum_cons] at ih ⊢
        omega
    unfold Pg.pno
    omega
  have hp0 : 0 ≤ p.pno := by unfold Pg.pno; omega
  have hcm := refCount_ok 1000 p.main (by omega) (Nat.le_refl _)
  have hw : IntKind.i64.wrap (p.pno + (Sm.flats p.main).length) = p.pno + (Sm.flats p.main).length := w64 (by omega) (by omega)
  have hloop := fun a b T k X hexit φ h1 h2 h4 h5 h7 h8 => rCheck_loop p (fun x hx => by have := Pg.proc_sizes x hx; omega) (by omega) p.pno (by omega) a b T k X hexit p.procs 0 0 φ rfl (Int.zero_add _).symm (by omega) h1 h2 h4 h5 h7 h8
  rw [eval_M rfl rfl t_r20_Check rfl]
  unfold Pg.chkB
  by_cases c : p.typed = (0, 0)
  · rw [if_neg (by rw [c]; simp)]
    rw [c] at hC
    generalize p.stepsB = r at hS ⊢
    obtain ⟨a, b, o⟩ := r
    generalize p.pno = z at hloop hw ⊢
    simp only [Pg.cells] at hC hS hloop ⊢
    simp [c_r20_Check, hC, hS]
    refine hloop a b _ _ _ ?_ _ ?_ ?_ ?_ ?_ ?_ ?_
    · intro φ' h1 h2 h4 h5 h7
      by_cases ha : a = 65537
      · subst ha
        simp [r_r20_Check_0, h1, h2, h4, h5, h7]
      by_cases hb : b = 65537
      · subst hb
        simp [r_r20_Check_0, h1, h2, h4, h5, h7, ha, hcm, hw]
      · simp [r_r20_Check_0, h1, h2, h4, h5, h7, ha, hb]
    all_goals simp
  · have c1 : ¬ p.typed.1 = 0 := fun e => c (typed_nil e)
    rw [if_pos c]
    generalize p.typed = f at hC c1 ⊢
    simp only [Pg.cells] at hC ⊢
    simp [c_r20_Check, hC, c1]
theorem Ints_loop (D : List Int) (hD : D.length ≤ 100000) (k : List Item) (X : Option (V × Heap)) (hexit : ∀ φ', M (eval tbl noExt) k φ' [] = X) :
    ∀ (n j : Nat) (φ : Fr), n + j = D.length → Fr.get φ 0 = .sl 1 (irows D) → Fr.get φ 1 = .sl 1 (irows D) → Fr.get φ 5 = .int .i64 j →
      M (eval tbl noExt) (.code l_flotsamlaw04_Ints_0 :: .blk 0 :: k) φ [] = X := by
  have hDl := irows_len D
  intro n
  induction n with
  | zero =>
    intro j φ hd h0 h1 h5
    have hlt : ¬ ((j : Int) < D.length) := by omega
    rw [l_flotsamlaw04_Ints_0, M_loop, ← l_flotsamlaw04_Ints_0]
    simp [b_flotsamlaw04_Ints_0, h0, h1, h5, hDl, hlt]
    exact hexit _
  | succ n ih =>
    intro j φ hd h0 h1 h5
    have hj : j < D.length := by omega
    have hlt : (j : Int) < D.length := by omega
    have hw : IntKind.i64.wrap ((j : Int) + 1) = ((j + 1 : Nat) : Int) := by rw [w64 (by omega) (by omega)]; rfl
    have hkr := irows_at (l := D) (i := j) (v := D[j]) (List.getElem?_eq_getElem hj)
    have hkr2 : ∀ h, (irows D)[j]'h = [.int .i64 D[j]] := fun h => by rw [List.getElem?_eq_getElem h] at hkr; exact Option.some.inj hkr
    rw [l_flotsamlaw04_Ints_0, M_loop, ← l_flotsamlaw04_Ints_0]
    simp [b_flotsamlaw04_Ints_0, h0, h1, h5, hDl, hlt, hj, hkr, hkr2, hw]
    refine ih (j + 1) _ (by omega) ?_ ?_ ?_
    all_goals simp [h0, h1]
theorem Ints_eq (D : List Int) (hD : D.length ≤ 100000) : eval tbl noExt n_flotsamlaw04_Ints [.sl 1 (irows D), .sl 1 (irows D)] [] = some (.bool true, []) := by
  have hDl := irows_len D
  have hloop := fun k X hexit φ h0 h1 h5 => Ints_loop D hD k X hexit D.length 0 φ (by omega) h0 h1 h5
  rw [eval_M rfl rfl t_flotsamlaw04_Ints rfl]
  simp [c_flotsamlaw04_Ints, hDl]
  refine hloop _ _ ?_ _ ?_ ?_ ?_
  · intro φ'
    simp [r_flotsamlaw04_Ints_0]
  all_goals simp
end Go.AM.Spec
namespace Go.AM.Spec
set_option linter.unusedVariables false
set_option linter.unusedSimpArgs false
set_option maxHeartbeats 4000000
set_option maxRecDepth 10000
theorem knows20t : eval tbl noExt n_flotsamlaw20_knows [] [] = some (.bool true, []) := (eval_iff _ _ _ _ _ _).2 ⟨400, by kernel_rfl⟩
theorem callsP_len : ∀ (l : List (Nm × List Sm)) (m : Mp), (callsP l m).length = l.length
  | [], _ => rfl
  | x :: l, m => by simp [callsP, callsP_len l]
theorem BoundTells_eq (p : Pg) (hfit : p.fit) : eval tbl noExt n_flotsamlaw20_BoundTells [.agg p.cells] [] = some (.bool true, []) := by
  obtain ⟨b, hb, hs⟩ := Small_eq p
  rw [eval_M rfl rfl t_flotsamlaw20_BoundTells rfl]
  cases b with
  | false =>
    simp only [Pg.cells] at hb ⊢
    simp [c_flotsamlaw20_BoundTells, hb, knows20t]
  | true =>
    obtain ⟨hsz, htx⟩ := hs rfl
    have hF : p.Fine := ⟨by omega, htx⟩
    have h1 := Steps_eq p hF
    have h2 := rSteps_eq p hF hsz
    have h3 := Calls_eq p hF
    have h4 := rCalls_eq p hF hsz
    have h5 := bCheck_eq p hF
    have h6 := rbCheck_eq p hF hsz
    have h7 := Fault_eq p.chkB.1 p.chkB.2 p.chkB.1 p.chkB.2
    have hpl := (p.lens hF.size).1
    obtain ⟨D, o, hD, hc⟩ : ∃ (D : List Int) (o : Bool), D.length ≤ 100000 ∧ p.callsB = .tup [.sl 1 (irows D), .bool o] := by
      unfold Pg.callsB
      split
      · exact ⟨_, true, by rw [callsP_len]; omega, rfl⟩
      · exact ⟨[], false, by simp, rfl⟩
    have h8 := Ints_eq D hD
    rw [hc] at h3 h4
    generalize p.stepsB = r at h1 h2
    generalize p.chkB = f at h5 h6 h7
    simp only [Pg.cells] at hb h1 h2 h3 h4 h5 h6 ⊢
    simp [c_flotsamlaw20_BoundTells, hb, knows20t, h1, h2, h3, h4, h5, h6, h7, h8]
end Go.AM.Spec
