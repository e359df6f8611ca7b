/-
 The parts of this proof that speak of the functions one by one.
-/
import Derived.Test.YtfmbdcpdoffdeabGreatDoorSpecAa
import Derived.Test.YtfmbdcpdoffdeabGreatDoorSpc
namespace Go.AM.Spec
set_option linter.unusedVariables false
set_option linter.unusedSimpArgs false
set_option maxHeartbeats 4000000
set_option maxRecDepth 20000
theorem refInode_loop {m : List (List UInt8)} (hm : ∀ s ∈ m, s.length = 32) (H : Heap) (k : List Item) (Q : Option (V × Heap) → Prop) (P : List Nat)
  (he : ∀ φ, P = [] → Q (M (eval tbl noExt) k φ H)) (hr : ∀ φ i, P = [i] → Fr.get φ 2 = iw i → Fr.get φ 3 = .bool true → Q (retK (.blk 0 :: k) φ H)) :
  ∀ (r j : Nat) (φ : Fr), j + r = 16 → P = pick (taken m ·) 1 r j 0 → Fr.get φ 0 = imgV m → Fr.get φ 4 = iw j → Q (M (eval tbl noExt) (.code l_flotsamref10_Inode_0 :: .blk 0 :: k) φ H) := by
 intro r
 induction r with
 | zero =>
  intro j φ hj hP h0 h4
  obtain rfl : j = 16 := by omega
  rw [l_flotsamref10_Inode_0, M_loop, ← l_flotsamref10_Inode_0]
  simp [b_flotsamref10_Inode_0, h0, h4]
  exact he _ (by rw [hP]; rfl)
 | succ r ih =>
  intro j φ hj hP h0 h4
  have hlt : (j : Int) < 16 := by omega
  have hlt' : j < 16 := by omega
  have hT := refTaken_eq hm j
  have hw : IntKind.i64.wrap ((j : Int) + 1) = ((j + 1 : Nat) : Int) := by rw [w64 (by omega) (by omega)]; rfl
  rw [l_flotsamref10_Inode_0, M_loop, ← l_flotsamref10_Inode_0]
  cases ht : taken m j with
  | true =>
   rw [ht] at hT
   simp [b_flotsamref10_Inode_0, h0, h4, hlt, hlt', hT, hw]
   refine ih (j + 1) _ (by omega) (by rw [hP]; simp [pick, ht]) ?_ ?_
   all_goals simp [h0]
  | false =>
   rw [ht] at hT
   simp [b_flotsamref10_Inode_0, h0, h4, hlt, hlt', hT, hw]
   have := fun φ a b => hr φ j (by rw [hP]; cases r <;> simp [pick, ht]) a b
   simp only [retK_blk] at this
   refine this _ ?_ ?_
   all_goals simp
theorem refInode_eq2 {m : List (List UInt8)} (hm : ∀ s ∈ m, s.length = 32) : eval tbl noExt n_flotsamref10_Inode [imgV m] [] = some (.tup [iw ((pick (taken m ·) 1 16 0 0).headD 0 : Nat), .bool (!(pick (taken m ·) 1 16 0 0).isEmpty)], []) := by
 obtain ⟨P, hP⟩ : ∃ P, P = pick (taken m ·) 1 16 0 0 := ⟨_, rfl⟩
 rw [← hP]
 obtain ⟨z, hz⟩ : ∃ z, z = P.headD 0 := ⟨_, rfl⟩
 rw [← hz]
 rw [eval_M rfl rfl t_flotsamref10_Inode rfl]
 simp [c_flotsamref10_Inode]
 refine refInode_loop hm [] _ (fun x => x = some (.tup [iw z, .bool (!P.isEmpty)], [])) P ?_ ?_ 16 0 _ rfl hP ?_ ?_
 ·intro φ h
  subst h hz
  simp [r_flotsamref10_Inode_0]
 ·intro φ i h h2 h3
  subst h hz
  simp [h2, h3]
 all_goals simp
theorem refSlot_loop {m : List (List UInt8)} (hm : ∀ s ∈ m, s.length = 32) (k : List Item) (Q : Option (V × Heap) → Prop) (P : List Nat)
  (he : ∀ φ A, P = [] → Q (M (eval tbl noExt) k φ A)) (hr : ∀ φ i A, P = [i] → Fr.get φ 2 = iw i → Fr.get φ 3 = .bool true → Q (retK (.blk 0 :: k) φ A)) :
  ∀ (r j : Nat) (φ : Fr) (A : Heap), j + r = 24 → P = pick (usedK m) 1 r j 0 → Fr.get φ 0 = imgV m → Fr.get φ 4 = iw j → Q (M (eval tbl noExt) (.code l_flotsamref10_Slot_0 :: .blk 0 :: k) φ A) := by
 intro r
 induction r with
 | zero =>
  intro j φ A hj hP h0 h4
  obtain rfl : j = 24 := by omega
  rw [l_flotsamref10_Slot_0, M_loop, ← l_flotsamref10_Slot_0]
  simp [b_flotsamref10_Slot_0, h0, h4]
  exact he _ _ (by rw [hP]; rfl)
 | succ r ih =>
  intro j φ A hj hP h0 h4
  have hlt : (j : Int) < 24 := by omega
  have hlt' : j < 24 := by omega
  have hE := refEnt_eq hm j hlt'
  have hc : (ent m j).cells = [.bool (ent m j).used, iw (ent m j).parent, .str (ent m j).name, iw (ent m j).target] := rfl
  have hw : IntKind.i64.wrap ((j : Int) + 1) = ((j + 1 : Nat) : Int) := by rw [w64 (by omega) (by omega)]; rfl
  rw [l_flotsamref10_Slot_0, M_loop, ← l_flotsamref10_Slot_0]
  cases ht : (ent m j).used with
  | true =>
   simp [b_flotsamref10_Slot_0, h0, h4, hlt, hlt', hE, hc, hw, ht, get0, set0]
   refine ih (j + 1) _ _ (by omega) (by rw [hP]; simp [pick, usedK, ht]) ?_ ?_
   all_goals simp [h0]
  | false =>
   simp [b_flotsamref10_Slot_0, h0, h4, hlt, hlt', hE, hc, hw, ht, get0, set0]
   have := fun φ A a b => hr φ j A (by rw [hP]; cases r <;> simp [pick, usedK, ht]) a b
   simp only [retK_blk] at this
   refine this _ _ ?_ ?_
   all_goals simp
theorem refSlot_eq2 {m : List (List UInt8)} (hm : ∀ s ∈ m, s.length = 32) : eval tbl noExt n_flotsamref10_Slot [imgV m] [] = some (.tup [iw ((pick (usedK m) 1 24 0 0).headD 0 : Nat), .bool (!(pick (usedK m) 1 24 0 0).isEmpty)], []) := by
 obtain ⟨P, hP⟩ : ∃ P, P = pick (usedK m) 1 24 0 0 := ⟨_, rfl⟩
 rw [← hP]
 obtain ⟨z, hz⟩ : ∃ z, z = P.headD 0 := ⟨_, rfl⟩
 rw [← hz]
 rw [eval_M rfl rfl t_flotsamref10_Slot rfl]
 simp [c_flotsamref10_Slot]
 refine refSlot_loop hm _ (fun x => x = some (.tup [iw z, .bool (!P.isEmpty)], [])) P ?_ ?_ 24 0 _ _ rfl hP ?_ ?_
 ·intro φ A h
  subst h hz
  simp [r_flotsamref10_Slot_0]
 ·intro φ i A h h2 h3
  subst h hz
  simp [h2, h3]
 all_goals simp
def put4t (L : List Bool) (a b c d : Nat) : List Bool := (((L.set a true).set b true).set c true).set d true
theorem put4t_len (L : List Bool) (a b c d : Nat) : (put4t L a b c d).length = L.length := by simp [put4t]
def put6t (L : List Bool) (x : Int × Int × Int × Int × Int × Int) : List Bool := put4t L x.2.2.1.toNat x.2.2.2.1.toNat x.2.2.2.2.1.toNat x.2.2.2.2.2.toNat
theorem put6t_of {x : Int × Int × Int × Int × Int × Int} {a b c d : Nat} (h : Bs x a b c d) (L : List Bool) : put6t L x = put4t L a b c d := by
 obtain ⟨h1, h2, h3, h4⟩ := h.e
 unfold put6t
 rw [h1, h2, h3, h4]
 rfl
noncomputable def usedL (m : List (List UInt8)) : Nat → List Bool
 | 0 => List.replicate 25 false
 | j + 1 => if (ino m j).1 = 1 ∧ taken m j = true then put6t (usedL m j) (ino m j) else usedL m j
theorem usedL_len (m : List (List UInt8)) : ∀ j, (usedL m j).length = 25
 | 0 => rfl
 | j + 1 => by unfold usedL; split <;> simp [put6t, put4t_len, usedL_len m j]
theorem used_inner {Z X : List V} {A : Heap} {L : List Bool} (hL : L.length = 25) {p q : V} {a b c d : Nat} (ha : a ≤ 24) (hb : b ≤ 24) (hc : c ≤ 24) (hd : d ≤ 24) (k : List Item) (Q : Option (V × Heap) → Prop) (v : V) (j : Nat) (hX : X = [p, q, iw a, iw b, iw c, iw d])
  (he : ∀ φ, Fr.get φ 0 = v → Fr.get φ 2 = .ptr 0 0 → Fr.get φ 3 = .ptr 1 0 → Fr.get φ 4 = iw j → Q (M (eval tbl noExt) k φ (some Z :: some (bl (put4t L a b c d)) :: (A ++ [some X]))))
  (φ : Fr) (h0 : Fr.get φ 0 = v) (h2 : Fr.get φ 2 = .ptr 0 0) (h3 : Fr.get φ 3 = .ptr 1 0) (h4 : Fr.get φ 4 = iw j) (h5 : Fr.get φ 5 = .ptr (A.length + 2) 0) (h6 : Fr.get φ 6 = iw 0) :
  Q (M (eval tbl noExt) (.code l_flotsamref10_Used_0 :: .blk 2 :: k) φ (some Z :: some (bl L) :: (A ++ [some X]))) := by
 have w1 : IntKind.i64.wrap 1 = 1 := rfl
 have w2 : IntKind.i64.wrap 2 = 2 := rfl
 have w3 : IntKind.i64.wrap 3 = 3 := rfl
 have w4 : IntKind.i64.wrap 4 = 4 := rfl
 have i1 : (a : Int) < 25 := by omega
 have i2 : (b : Int) < 25 := by omega
 have i3 : (c : Int) < 25 := by omega
 have i4 : (d : Int) < 25 := by omega
 have hs : ∀ (X : List Bool) (i : Nat) (q : Bool), (bl X).set i (.bool q) = bl (X.set i q) := bl_set
 have hlen : ∀ X : List Bool, (bl X).length = X.length := bl_len
 have g0 := fun x r => get0 A x r
 rw [l_flotsamref10_Used_0, M_loop, ← l_flotsamref10_Used_0]
 simp [b_flotsamref10_Used_0, h0, h2, h3, h4, h5, h6, hX, i1, ha, hs, hlen, hL, w1]
 rw [l_flotsamref10_Used_0, M_loop, ← l_flotsamref10_Used_0]
 simp [b_flotsamref10_Used_0, h0, h2, h3, h4, h5, h6, hX, i2, hb, hs, hlen, hL, w1, w2]
 rw [l_flotsamref10_Used_0, M_loop, ← l_flotsamref10_Used_0]
 simp [b_flotsamref10_Used_0, h0, h2, h3, h4, h5, h6, hX, i3, hc, hs, hlen, hL, w2, w3]
 rw [l_flotsamref10_Used_0, M_loop, ← l_flotsamref10_Used_0]
 simp [b_flotsamref10_Used_0, h0, h2, h3, h4, h5, h6, hX, i4, hd, hs, hlen, hL, w3, w4]
 rw [l_flotsamref10_Used_0, M_loop, ← l_flotsamref10_Used_0]
 simp [b_flotsamref10_Used_0, h0, h2, h3, h4, h5, h6]
 unfold put4t at he
 rw [hX] at he
 refine he _ ?_ ?_ ?_ ?_
 all_goals simp [h0, h2, h3, h4]
theorem used_loop {m : List (List UInt8)} (hm : ∀ s ∈ m, s.length = 32) (Z : List V) (k : List Item) (Q : Option (V × Heap) → Prop)
  (he : ∀ φ A, Fr.get φ 2 = .ptr 0 0 → Fr.get φ 3 = .ptr 1 0 → Q (M (eval tbl noExt) k φ (some Z :: some (bl (usedL m 16)) :: A))) :
  ∀ (r j : Nat) (φ : Fr) (A : Heap), j + r = 16 → Fr.get φ 0 = imgV m → Fr.get φ 2 = .ptr 0 0 → Fr.get φ 3 = .ptr 1 0 → Fr.get φ 4 = iw j → Q (M (eval tbl noExt) (.code l_flotsamref10_Used_1 :: .blk 0 :: k) φ (some Z :: some (bl (usedL m j)) :: A)) := by
 intro r
 induction r with
 | zero =>
  intro j φ A hj h0 h2 h3 h4
  obtain rfl : j = 16 := by omega
  rw [l_flotsamref10_Used_1, M_loop, ← l_flotsamref10_Used_1]
  simp [b_flotsamref10_Used_1, h0, h2, h3, h4]
  exact he _ _ (by simp [h2]) (by simp [h3])
 | succ r ih =>
  intro j φ A hj h0 h2 h3 h4
  have hlt : (j : Int) < 16 := by omega
  have hlt' : j < 16 := by omega
  have hI := refIno_eq hm j hlt'
  have hT := refTaken_eq hm j
  have hw : IntKind.i64.wrap ((j : Int) + 1) = ((j + 1 : Nat) : Int) := by rw [w64 (by omega) (by omega)]; rfl
  obtain ⟨a, b, c, d, hB⟩ := bs_of m j
  obtain ⟨e1, e2, e3, e4⟩ := hB.e
  obtain ⟨l1, l2, l3, l4⟩ := hB.le
  have hc : inoCells (ino m j) = [iw (ino m j).1, iw (ino m j).2.1, iw a, iw b, iw c, iw d] := by unfold inoCells; rw [e1, e2, e3, e4]
  rw [l_flotsamref10_Used_1, M_loop, ← l_flotsamref10_Used_1]
  by_cases hk : (ino m j).1 = 1
  ·cases ht : taken m j with
   | true =>
    have e : usedL m (j + 1) = put4t (usedL m j) a b c d := by
     show (if _ then _ else _) = _
     rw [if_pos ⟨hk, ht⟩, put6t_of hB]
    rw [ht] at hT
    simp [b_flotsamref10_Used_1, h0, h2, h3, h4, hlt, hlt', hT, hw, hI, hc, hk]
    refine used_inner (usedL_len m j) (p := iw 1) (q := iw (ino m j).2.1) l1 l2 l3 l4 _ Q (imgV m) j (by rfl) ?_ _ ?_ ?_ ?_ ?_ ?_ ?_
    rotate_left
    all_goals first | (simp [h0, h2, h3, h4]; done) | skip
    intro φ g0 g2 g3 g4
    rw [← e]
    simp [r_flotsamref10_Used_0, g4, hw]
    refine ih (j + 1) _ _ (by omega) ?_ ?_ ?_ ?_
    all_goals simp [g0, g2, g3]
   | false =>
    have e : usedL m (j + 1) = usedL m j := by
     show (if _ then _ else _) = _
     rw [if_neg (by rw [ht]; simp)]
    rw [ht] at hT
    simp [b_flotsamref10_Used_1, h0, h2, h3, h4, hlt, hlt', hT, hw, hI, hc, hk, r_flotsamref10_Used_0]
    rw [← e]
    refine ih (j + 1) _ _ (by omega) ?_ ?_ ?_ ?_
    all_goals simp [h0, h2, h3]
  ·have e : usedL m (j + 1) = usedL m j := by
    show (if _ then _ else _) = _
    rw [if_neg (by simp [hk])]
   simp [b_flotsamref10_Used_1, h0, h2, h3, h4, hlt, hlt', hw, hI, hc, hk, r_flotsamref10_Used_0]
   rw [← e]
   refine ih (j + 1) _ _ (by omega) ?_ ?_ ?_ ?_
   all_goals simp [h0, h2, h3]
noncomputable def usedF (m : List (List UInt8)) : List Bool := (usedL m 16).set 0 true
theorem usedF_len (m : List (List UInt8)) : (usedF m).length = 25 := by simp [usedF, usedL_len]
theorem Used_eq {m : List (List UInt8)} (hm : ∀ s ∈ m, s.length = 32) : eval tbl noExt n_flotsamref10_Used [imgV m] [] = some (.agg (bl (usedF m)), []) := by
 have e0 : [V.bool false, V.bool false, V.bool false, V.bool false, V.bool false, V.bool false, V.bool false, V.bool false, V.bool false, V.bool false, V.bool false, V.bool false, V.bool false, V.bool false, V.bool false, V.bool false, V.bool false, V.bool false, V.bool false, V.bool false, V.bool false, V.bool false, V.bool false, V.bool false, V.bool false] = bl (usedL m 0) := rfl
 have hl := (bl_len _).trans (usedF_len m)
 have hl2 := (bl_len _).trans (usedL_len m 16)
 have q0 : (bl (usedL m 16)).set 0 (.bool true) = bl (usedF m) := bl_set _ _ _
 have q1 := bl_strip (usedF m)
 have q2 := bl_one (usedF m)
 have q3 := fun n => bl_under n (usedF m)
 have q4 : setMany (bl (usedL m 0)) 0 (bl (usedF m)) = bl (usedF m) := bl_put _ _ (by rw [bl_len, usedL_len, usedF_len])
 have q5 : (bl (usedF m)).take 25 = bl (usedF m) := List.take_of_length_le (by omega)
 have hl0 := (bl_len _).trans (usedL_len m 0)
 rw [eval_M rfl rfl t_flotsamref10_Used rfl]
 simp [c_flotsamref10_Used]
 rw [e0]
 refine used_loop hm _ _ (fun x => x = some (.agg (bl (usedF m)), [])) ?_ 16 0 _ _ rfl ?_ ?_ ?_ ?_
 ·intro φ A h2 h3
  simp [-List.all_eq_true, r_flotsamref10_Used_1, h2, h3, hl, hl0, hl2, q0, q1, q2, q3, q4, q5]
 all_goals simp
noncomputable def usedB (m : List (List UInt8)) (b : Nat) : Bool := (usedF m).getD b false
theorem usedB_get (m : List (List UInt8)) {b : Nat} (hb : b < 25) : (usedF m)[b]? = some (usedB m b) := by
 unfold usedB
 have hl := usedF_len m
 rw [List.getD_eq_getElem?_getD, List.getElem?_eq_getElem (by omega)]; rfl
theorem refBlocks_loop {m : List (List UInt8)} (n : Int) (k : List Item) (Q : Option (V × Heap) → Prop) (Z : List Nat) (K : Heap) (hK : K = [some (bl (usedF m))])
  (he : ∀ φ, Fr.get φ 1 = iw n → Fr.get φ 6 = .own 1 (nr Z) → Q (M (eval tbl noExt) k φ K)) :
  ∀ (r i : Nat) (out : List Nat) (φ : Fr), 1 ≤ i → i + r = 25 → Z = out ++ pick (usedB m) n r i out.length → out.length ≤ i → Fr.get φ 1 = iw n → Fr.get φ 6 = .own 1 (nr out) → Fr.get φ 7 = .ptr 0 0 → Fr.get φ 8 = iw i →
   Q (M (eval tbl noExt) (.code l_flotsamref10_Blocks_0 :: .blk 0 :: k) φ K) := by
 have hl := (bl_len _).trans (usedF_len m)
 intro r
 induction r with
 | zero =>
  intro i out φ hi hr hZ ho h1 h6 h7 h8
  obtain rfl : i = 25 := by omega
  rw [l_flotsamref10_Blocks_0, M_loop, ← l_flotsamref10_Blocks_0]
  simp [b_flotsamref10_Blocks_0, h1, h6, h7, h8]
  refine he _ (by simp [h1]) ?_
  rw [hZ]
  simp [pick, h6]
 | succ r ih =>
  intro i out φ hi hr hZ ho h1 h6 h7 h8
  have hlt : (i : Int) ≤ 24 := by omega
  have hlt' : i ≤ 24 := by omega
  have hlt2 : (i : Int) < 25 := by omega
  have hlt3 : i < 25 := by omega
  have hw : IntKind.i64.wrap ((i : Int) + 1) = ((i + 1 : Nat) : Int) := by rw [w64 (by omega) (by omega)]; rfl
  have hT := bl_get (usedF m) i
  rw [usedB_get m (by omega)] at hT
  simp only [Option.map_some] at hT
  rw [l_flotsamref10_Blocks_0, M_loop, ← l_flotsamref10_Blocks_0]
  unfold pick at hZ
  by_cases hc : (out.length : Int) < n
  ·rw [if_pos hc] at hZ
   cases hb : usedB m i with
   | true =>
    rw [if_pos hb] at hZ
    rw [hb] at hT
    simp [b_flotsamref10_Blocks_0, h1, h6, h7, h8, hlt, hlt', hlt2, hlt3, hc, hK, hT, hw]
    rw [← hK]
    refine ih (i + 1) out _ (by omega) (by omega) hZ (by omega) ?_ ?_ ?_ ?_
    all_goals simp [h1, h6, h7]
   | false =>
    rw [if_neg (by rw [hb]; simp)] at hZ
    rw [hb] at hT
    have g1 : 2 * (out.length + 1) * 8 ≤ 281474976710656 := by omega
    simp [b_flotsamref10_Blocks_0, h1, h6, h7, h8, hlt, hlt', hlt2, hlt3, hc, hK, hT, hw, g1]
    rw [← hK]
    refine ih (i + 1) (out ++ [i]) _ (by omega) (by omega) (by rw [hZ]; simp) (by simp; omega) ?_ ?_ ?_ ?_
    all_goals simp [h1, h6, h7]
  ·rw [if_neg hc] at hZ
   simp [b_flotsamref10_Blocks_0, h1, h6, h7, h8, hlt, hlt', hc]
   refine he _ (by simp [h1]) ?_
   rw [hZ]
   simp [h6]
theorem refBlocks_eq2 {m : List (List UInt8)} (hm : ∀ s ∈ m, s.length = 32) (n : Int) : eval tbl noExt n_flotsamref10_Blocks [imgV m, iw n] [] = some (.tup (if ((pick (usedB m) n 24 1 0).length : Int) = n then [.sl 1 (nr (pick (usedB m) n 24 1 0)), .bool true] else [.sl 1 [], .bool false]), []) := by
 have hU := Used_eq hm
 have hl := (bl_len _).trans (usedF_len m)
 have q2 := bl_one (usedF m)
 have q3 := fun n => bl_under n (usedF m)
 have e0 : [V.bool false, V.bool false, V.bool false, V.bool false, V.bool false, V.bool false, V.bool false, V.bool false, V.bool false, V.bool false, V.bool false, V.bool false, V.bool false, V.bool false, V.bool false, V.bool false, V.bool false, V.bool false, V.bool false, V.bool false, V.bool false, V.bool false, V.bool false, V.bool false, V.bool false] = bl (usedL m 0) := rfl
 have q4 : setMany (bl (usedL m 0)) 0 (bl (usedF m)) = bl (usedF m) := bl_put _ _ (by rw [bl_len, usedL_len, usedF_len])
 rw [← e0] at q4
 obtain ⟨P, hP⟩ : ∃ P, P = pick (usedB m) n 24 1 0 := ⟨_, rfl⟩
 rw [← hP]
 rw [eval_M rfl rfl t_flotsamref10_Blocks rfl]
 simp [-List.all_eq_true, c_flotsamref10_Blocks, hU, hl, q2, q3, q4]
 refine refBlocks_loop n _ (fun x => x = some (.tup (if (P.length : Int) = n then [.sl 1 (nr P), .bool true] else [.sl 1 [], .bool false]), [])) P _ rfl ?_ 24 1 [] _ (by omega) rfl hP (by simp) ?_ ?_ ?_ ?_
 ·intro φ h1 h6
  by_cases hn : (P.length : Int) = n
  ·simp [r_flotsamref10_Blocks_0, h1, h6, hn]
  ·simp [r_flotsamref10_Blocks_0, h1, h6, hn]
 all_goals simp
def Like (A B : List Bool) : Prop := A.length = B.length ∧ ∀ i, 1 ≤ i → A[i]? = B[i]?
theorem Like.set {A B : List Bool} (h : Like A B) (a : Nat) : Like (A.set a (decide (0 < a))) (B.set a true) := by
 refine ⟨by simp [h.1], fun i hi => ?_⟩
 by_cases e : a = i
 ·subst e
  rw [List.getElem?_set, List.getElem?_set, h.1]
  have : 0 < a := hi
  simp [this]
 ·rw [List.getElem?_set_ne e, List.getElem?_set_ne e]
  exact h.2 i hi
theorem Like.zero {A B : List Bool} (h : Like A B) (q : Bool) : Like (A.set 0 q) B := by
 refine ⟨by simp [h.1], fun i hi => ?_⟩
 rw [List.getElem?_set_ne (by omega)]
 exact h.2 i hi
theorem Like.zeroR {A B : List Bool} (h : Like A B) (q : Bool) : Like A (B.set 0 q) := by
 refine ⟨by simp [h.1], fun i hi => ?_⟩
 rw [List.getElem?_set_ne (by omega)]
 exact h.2 i hi
theorem blk_like (m : List (List UInt8)) : ∀ j, Like (blkL m j) (usedL m j)
 | 0 => ⟨rfl, fun _ _ => rfl⟩
 | j + 1 => by
  have ih := blk_like m j
  obtain ⟨a, b, c, d, hB⟩ := bs_of m j
  show Like (if _ then _ else _) (if _ then _ else _)
  by_cases ht : taken m j = true
  ·rw [if_pos ht]
   by_cases hk : (ino m j).1 = 1
   ·rw [if_pos ⟨hk, ht⟩, put6_of hB, put6t_of hB]
    exact (((ih.set a).set b).set c).set d
   ·rw [if_neg (by simp [hk]), put6_of hB]
    obtain ⟨rfl, rfl, rfl, rfl⟩ := hB.zero hk
    exact (((ih.zero _).zero _).zero _).zero _
  ·rw [if_neg ht, if_neg (by simp [ht])]
   exact ih
theorem blk_used (m : List (List UInt8)) : Like (blkL m 16) (usedF m) := (blk_like m 16).zeroR true
theorem blkB_eq (m : List (List UInt8)) {b : Nat} (h : 1 ≤ b) : blkB m b = usedB m b := by
 unfold blkB usedB
 rw [List.getD_eq_getElem?_getD, List.getD_eq_getElem?_getD, (blk_used m).2 b h]
theorem pick_congr {p q : Nat → Bool} (n : Int) : ∀ (r i c : Nat), (∀ j, i ≤ j → j < i + r → p j = q j) → pick p n r i c = pick q n r i c
 | 0, _, _, _ => rfl
 | r + 1, i, c, h => by
  have h1 := h i (Nat.le_refl _) (by omega)
  have ih1 := pick_congr n r (i + 1) c (fun j a b => h j (by omega) (by omega))
  have ih2 := pick_congr n r (i + 1) (c + 1) (fun j a b => h j (by omega) (by omega))
  unfold pick
  rw [h1, ih1, ih2]
theorem cnt_append : ∀ a b : List Bool, cnt (a ++ b) = cnt a + cnt b
 | [], b => by simp [cnt]
 | x :: a, b => by simp only [List.cons_append, cnt, cnt_append a b]; omega
theorem cnt_map_succ (p : Nat → Bool) (j : Nat) : cnt ((List.range (j + 1)).map p) = cnt ((List.range j).map p) + if p j = true then 1 else 0 := by
 rw [List.range_succ, List.map_append, cnt_append]
 simp [cnt]
theorem inL_map (m : List (List UInt8)) : inL m 24 = (List.range 16).map fun (n : Nat) => taken m n := by
 apply List.ext_getElem?
 intro i
 rcases Nat.lt_or_ge i 16 with h | h
 ·rw [inL_taken m i h, List.getElem?_map, List.getElem?_range h]; rfl
 ·have := inL_len m 24
  rw [List.getElem?_eq_none (by omega), List.getElem?_eq_none (by simp; omega)]
theorem entL_get (m : List (List UInt8)) (i : Nat) : ∀ j, (entL m j)[i]? = if i < 24 then some (decide (i < j) && usedK m i) else none
 | 0 => by
  unfold entL
  rw [List.getElem?_replicate]
  simp
 | j + 1 => by
  have ih := entL_get m i j
  have hl := entL_len m j
  unfold entL
  by_cases e : j = i
  ·subst e
   rw [List.getElem?_set, if_pos rfl, hl]
   by_cases h : j < 24
   ·simp [h]
   ·simp [h]
  ·rw [List.getElem?_set_ne e, ih]
   have : decide (i < j + 1) = decide (i < j) := by
    rw [Bool.eq_iff_iff]; simp only [decide_eq_true_eq]; omega
   rw [this]
theorem entL_map (m : List (List UInt8)) : entL m 24 = (List.range 24).map (usedK m) := by
 apply List.ext_getElem?
 intro i
 rw [entL_get]
 rcases Nat.lt_or_ge i 24 with h | h
 ·rw [if_pos h, List.getElem?_map, List.getElem?_range h]; simp [h]
 ·rw [if_neg (by omega), List.getElem?_eq_none (by simp; omega)]
theorem blkL_map (m : List (List UInt8)) : cnt (blkL m 16) = cnt ((List.range 24).map fun i => usedB m (i + 1)) := by
 have h0 : (blkL m 16)[0]? = some false := by
  have key : ∀ j, (blkL m j)[0]? = some false := by
   intro j
   induction j with
   | zero => rfl
   | succ j ih =>
    show (if _ then _ else _)[0]? = _
    split
    ·obtain ⟨a, b, c, d, hB⟩ := bs_of m j
     rw [put6_of hB]
     have hs : ∀ (L : List Bool) (a : Nat), L[0]? = some false → (L.set a (decide (0 < a)))[0]? = some false := by
      intro L a h
      cases a with
      | zero =>
       have : 0 < L.length := by
        rcases Nat.lt_or_ge 0 L.length with h1 | h1
        ·exact h1
        ·rw [List.getElem?_eq_none h1] at h; cases h
       rw [List.getElem?_set_self this]; rfl
      | succ a => rw [List.getElem?_set_ne (by omega)]; exact h
     exact hs _ _ (hs _ _ (hs _ _ (hs _ _ ih)))
    ·exact ih
  exact key 16
 have hl := blkL_len m 16
 have e : blkL m 16 = false :: (List.range 24).map fun i => usedB m (i + 1) := by
  apply List.ext_getElem?
  intro i
  cases i with
  | zero => rw [h0]; rfl
  | succ i =>
   rw [List.getElem?_cons_succ]
   rcases Nat.lt_or_ge i 24 with h | h
   ·rw [blkB_get m (by omega), blkB_eq m (by omega), List.getElem?_map, List.getElem?_range h]; rfl
   ·rw [List.getElem?_eq_none (by omega), List.getElem?_eq_none (by simp; omega)]
 rw [e]
 simp [cnt]
theorem refCount0 {m : List (List UInt8)} (hm : ∀ s ∈ m, s.length = 32) (k : List Item) (Q : Option (V × Heap) → Prop) (a : Nat) (ha : a = cnt ((List.range 16).map fun (n : Nat) => taken m n))
  (he : ∀ φ, Fr.get φ 0 = imgV m → Fr.get φ 5 = iw a → Fr.get φ 6 = iw 0 → Fr.get φ 7 = iw 0 → Q (M (eval tbl noExt) k φ [])) :
  ∀ (r j c : Nat) (φ : Fr), j + r = 16 → c = cnt ((List.range j).map fun (n : Nat) => taken m n) → Fr.get φ 0 = imgV m → Fr.get φ 5 = iw c → Fr.get φ 6 = iw 0 → Fr.get φ 7 = iw 0 → Fr.get φ 8 = iw j → Q (M (eval tbl noExt) (.code l_flotsamref10_Count_0 :: .blk 0 :: k) φ []) := by
 intro r
 induction r with
 | zero =>
  intro j c φ hj hc h0 h5 h6 h7 h8
  obtain rfl : j = 16 := by omega
  rw [l_flotsamref10_Count_0, M_loop, ← l_flotsamref10_Count_0]
  simp [b_flotsamref10_Count_0, h0, h5, h6, h7, h8]
  refine he _ ?_ ?_ ?_ ?_
  all_goals simp [h0, h5, h6, h7, ha, hc]
 | succ r ih =>
  intro j c φ hj hc h0 h5 h6 h7 h8
  have hlt : (j : Int) < 16 := by omega
  have hlt' : j < 16 := by omega
  have hT := refTaken_eq hm j
  have hcl := cnt_le ((List.range j).map fun (n : Nat) => taken m n)
  simp only [List.length_map, List.length_range] at hcl
  have hw : IntKind.i64.wrap ((j : Int) + 1) = ((j + 1 : Nat) : Int) := by rw [w64 (by omega) (by omega)]; rfl
  have hwc : IntKind.i64.wrap ((c : Int) + 1) = ((c + 1 : Nat) : Int) := by rw [w64 (by omega) (by omega)]; rfl
  have hs := cnt_map_succ (fun (n : Nat) => taken m n) j
  rw [l_flotsamref10_Count_0, M_loop, ← l_flotsamref10_Count_0]
  cases ht : taken m j with
  | true =>
   rw [ht] at hT
   rw [if_pos ht, ← hc] at hs
   simp [b_flotsamref10_Count_0, h0, h5, h6, h7, h8, hlt, hlt', hT, hw, hwc]
   refine ih (j + 1) (c + 1) _ (by omega) hs.symm ?_ ?_ ?_ ?_ ?_
   all_goals simp [h0, h5, h6, h7]
  | false =>
   rw [ht] at hT
   rw [if_neg (by simp [ht]), ← hc] at hs
   simp [b_flotsamref10_Count_0, h0, h5, h6, h7, h8, hlt, hlt', hT, hw, hwc]
   refine ih (j + 1) c _ (by omega) hs.symm ?_ ?_ ?_ ?_ ?_
   all_goals simp [h0, h5, h6, h7]
theorem refCount1 {m : List (List UInt8)} (hm : ∀ s ∈ m, s.length = 32) (a : Nat) (k : List Item) (Q : Option (V × Heap) → Prop) (b : Nat) (hb : b = cnt ((List.range 24).map (usedK m)))
  (he : ∀ φ A, Fr.get φ 0 = imgV m → Fr.get φ 5 = iw a → Fr.get φ 6 = iw b → Fr.get φ 7 = iw 0 → Q (M (eval tbl noExt) k φ A)) :
  ∀ (r j c : Nat) (φ : Fr) (A : Heap), j + r = 24 → c = cnt ((List.range j).map (usedK m)) → Fr.get φ 0 = imgV m → Fr.get φ 5 = iw a → Fr.get φ 6 = iw c → Fr.get φ 7 = iw 0 → Fr.get φ 9 = iw j → Q (M (eval tbl noExt) (.code l_flotsamref10_Count_1 :: .blk 2 :: k) φ A) := by
 intro r
 induction r with
 | zero =>
  intro j c φ A hj hc h0 h5 h6 h7 h9
  obtain rfl : j = 24 := by omega
  rw [l_flotsamref10_Count_1, M_loop, ← l_flotsamref10_Count_1]
  simp [b_flotsamref10_Count_1, h0, h5, h6, h7, h9]
  refine he _ _ ?_ ?_ ?_ ?_
  all_goals simp [h0, h5, h6, h7, hb, hc]
 | succ r ih =>
  intro j c φ A hj hc h0 h5 h6 h7 h9
  have hlt : (j : Int) < 24 := by omega
  have hlt' : j < 24 := by omega
  have hE := refEnt_eq hm j hlt'
  have hcc : (ent m j).cells = [.bool (ent m j).used, iw (ent m j).parent, .str (ent m j).name, iw (ent m j).target] := rfl
  have hcl := cnt_le ((List.range j).map (usedK m))
  simp only [List.length_map, List.length_range] at hcl
  have hw : IntKind.i64.wrap ((j : Int) + 1) = ((j + 1 : Nat) : Int) := by rw [w64 (by omega) (by omega)]; rfl
  have hwc : IntKind.i64.wrap ((c : Int) + 1) = ((c + 1 : Nat) : Int) := by rw [w64 (by omega) (by omega)]; rfl
  have hs := cnt_map_succ (usedK m) j
  rw [l_flotsamref10_Count_1, M_loop, ← l_flotsamref10_Count_1]
  cases ht : (ent m j).used with
  | true =>
   rw [if_pos (show usedK m j = true from ht), ← hc] at hs
   simp [b_flotsamref10_Count_1, h0, h5, h6, h7, h9, hlt, hlt', hE, hcc, ht, hw, hwc, get0, set0]
   refine ih (j + 1) (c + 1) _ _ (by omega) hs.symm ?_ ?_ ?_ ?_ ?_
   all_goals simp [h0, h5, h6, h7]
  | false =>
   rw [if_neg (by simp [usedK, ht]), ← hc] at hs
   simp [b_flotsamref10_Count_1, h0, h5, h6, h7, h9, hlt, hlt', hE, hcc, ht, hw, hwc, get0, set0]
   refine ih (j + 1) c _ _ (by omega) hs.symm ?_ ?_ ?_ ?_ ?_
   all_goals simp [h0, h5, h6, h7]
theorem refCount2 (m : List (List UInt8)) (a b : Nat) (A : Heap) (k : List Item) (Q : Option (V × Heap) → Prop) (d : Nat) (hd : d = cnt ((List.range 24).map fun i => usedB m (i + 1)))
  (he : ∀ φ, Fr.get φ 5 = iw a → Fr.get φ 6 = iw b → Fr.get φ 7 = iw d → Q (M (eval tbl noExt) k φ (A ++ [some (bl (usedF m))]))) :
  ∀ (r j c : Nat) (φ : Fr), j + r = 24 → c = cnt ((List.range j).map fun i => usedB m (i + 1)) → Fr.get φ 5 = iw a → Fr.get φ 6 = iw b → Fr.get φ 7 = iw c → Fr.get φ 11 = .ptr A.length 0 → Fr.get φ 12 = iw (j + 1 : Nat) → Q (M (eval tbl noExt) (.code l_flotsamref10_Count_2 :: .blk 4 :: k) φ (A ++ [some (bl (usedF m))])) := by
 intro r
 induction r with
 | zero =>
  intro j c φ hj hc h5 h6 h7 h11 h12
  obtain rfl : j = 24 := by omega
  rw [l_flotsamref10_Count_2, M_loop, ← l_flotsamref10_Count_2]
  simp [b_flotsamref10_Count_2, h5, h6, h7, h11, h12]
  refine he _ ?_ ?_ ?_
  all_goals simp [h5, h6, h7, hd, hc]
 | succ r ih =>
  intro j c φ hj hc h5 h6 h7 h11 h12
  obtain ⟨i, hi⟩ : ∃ i, i = j + 1 := ⟨_, rfl⟩
  rw [← hi] at h12
  have hlt : (i : Int) ≤ 24 := by omega
  have hlt' : i ≤ 24 := by omega
  have hlt2 : (i : Int) < 25 := by omega
  have hlt3 : i < 25 := by omega
  have hcl := cnt_le ((List.range j).map fun i => usedB m (i + 1))
  simp only [List.length_map, List.length_range] at hcl
  have hw : IntKind.i64.wrap ((i : Int) + 1) = ((i + 1 : Nat) : Int) := by rw [w64 (by omega) (by omega)]; rfl
  have hwc : IntKind.i64.wrap ((c : Int) + 1) = ((c + 1 : Nat) : Int) := by rw [w64 (by omega) (by omega)]; rfl
  have hs := cnt_map_succ (fun i => usedB m (i + 1)) j
  simp only [← hi] at hs
  have hT := bl_get (usedF m) i
  rw [usedB_get m (by omega)] at hT
  simp only [Option.map_some] at hT
  rw [l_flotsamref10_Count_2, M_loop, ← l_flotsamref10_Count_2]
  cases hb : usedB m i with
  | true =>
   rw [hb] at hT
   rw [if_pos hb, ← hc] at hs
   simp [b_flotsamref10_Count_2, h5, h6, h7, h11, h12, hlt, hlt', hlt2, hlt3, hT, hw, hwc, get0]
   refine ih (j + 1) (c + 1) _ (by omega) (by rw [hi] at hs; exact hs.symm) ?_ ?_ ?_ ?_ ?_
   all_goals simp [h5, h6, h7, h11, hi]
  | false =>
   rw [hb] at hT
   rw [if_neg (by simp [hb]), ← hc] at hs
   simp [b_flotsamref10_Count_2, h5, h6, h7, h11, h12, hlt, hlt', hlt2, hlt3, hT, hw, hwc, get0]
   refine ih (j + 1) c _ (by omega) (by rw [hi] at hs; exact hs.symm) ?_ ?_ ?_ ?_ ?_
   all_goals simp [h5, h6, h7, h11, hi]
theorem refCount_eq2 {m : List (List UInt8)} (hm : ∀ s ∈ m, s.length = 32) : eval tbl noExt n_flotsamref10_Count [imgV m] [] = some (.tup [iw (cnt (inL m 24)), iw (cnt (entL m 24)), iw (cnt (blkL m 16))], []) := by
 rw [inL_map, entL_map, blkL_map]
 obtain ⟨a, ha⟩ : ∃ a, a = cnt ((List.range 16).map fun (n : Nat) => taken m n) := ⟨_, rfl⟩
 obtain ⟨b, hb⟩ : ∃ b, b = cnt ((List.range 24).map (usedK m)) := ⟨_, rfl⟩
 obtain ⟨d, hd⟩ : ∃ d, d = cnt ((List.range 24).map fun i => usedB m (i + 1)) := ⟨_, rfl⟩
 rw [← ha, ← hb, ← hd]
 have hU := Used_eq hm
 have hl := (bl_len _).trans (usedF_len m)
 have q2 := bl_one (usedF m)
 have q3 := fun n => bl_under n (usedF m)
 have e0 : [V.bool false, V.bool false, V.bool false, V.bool false, V.bool false, V.bool false, V.bool false, V.bool false, V.bool false, V.bool false, V.bool false, V.bool false, V.bool false, V.bool false, V.bool false, V.bool false, V.bool false, V.bool false, V.bool false, V.bool false, V.bool false, V.bool false, V.bool false, V.bool false, V.bool false] = bl (usedL m 0) := rfl
 have q4 : setMany (bl (usedL m 0)) 0 (bl (usedF m)) = bl (usedF m) := bl_put _ _ (by rw [bl_len, usedL_len, usedF_len])
 rw [← e0] at q4
 rw [eval_M rfl rfl t_flotsamref10_Count rfl]
 simp [c_flotsamref10_Count]
 refine refCount0 hm _ (fun x => x = some (.tup [iw a, iw b, iw d], [])) a ha ?_ 16 0 0 _ rfl rfl ?_ ?_ ?_ ?_ ?_
 ·intro φ h0 h5 h6 h7
  simp [r_flotsamref10_Count_2, h0, h5, h6, h7]
  refine refCount1 hm a _ (fun x => x = some (.tup [iw a, iw b, iw d], [])) b hb ?_ 24 0 0 _ _ rfl rfl ?_ ?_ ?_ ?_ ?_
  ·intro φ A h0 h5 h6 h7
   simp [-List.all_eq_true, r_flotsamref10_Count_1, h0, h5, h6, h7, hU, hl, q2, q3, q4, get0, set0]
   refine refCount2 m a b A _ (fun x => x = some (.tup [iw a, iw b, iw d], [])) d hd ?_ 24 0 0 _ rfl rfl ?_ ?_ ?_ ?_ ?_
   ·intro φ h5 h6 h7
    simp [r_flotsamref10_Count_0, h5, h6, h7]
   all_goals simp [h5, h6, h7]
  all_goals simp [h0, h5, h6, h7]
 all_goals simp
def wstep (L : List (List UInt8)) (x : Wr) : List (List UInt8) := if 0 ≤ x.pos ∧ x.pos < L.length then L.set x.pos.toNat x.s else L
def withM (l : List (List UInt8)) (ws : List Wr) : List (List UInt8) := if 1 ≤ l.length ∧ l.length ≤ 65 then ws.foldl wstep l else []
theorem wstep_len (L : List (List UInt8)) (x : Wr) : (wstep L x).length = L.length := by unfold wstep; split <;> simp
theorem wstep_sec {L : List (List UInt8)} {x : Wr} (h : ∀ s ∈ L, s.length = 32) (hx : x.s.length = 32) : ∀ s ∈ wstep L x, s.length = 32 := by
 unfold wstep
 split
 ·intro s hs
  rcases List.mem_or_eq_of_mem_set hs with h1 | h1
  ·exact h s h1
  ·rw [h1]; exact hx
 ·exact h
abbrev flatM (L : List (List UInt8)) : List V := (L.map bys).flatten
theorem flatM_len : ∀ {L : List (List UInt8)}, (∀ s ∈ L, s.length = 32) → (flatM L).length = L.length * 32
 | [], _ => rfl
 | s :: L, h => by
  have ih := flatM_len (L := L) (fun s hs => h s (List.mem_cons_of_mem _ hs))
  have h1 := h s (List.mem_cons_self ..)
  simp only [flatM, List.map_cons, List.flatten_cons, List.length_append, List.length_cons, bys_len] at ih ⊢
  omega
theorem flat_put {L : List (List UInt8)} (h : ∀ s ∈ L, s.length = 32) {i : Nat} (hi : i < L.length) {s : List UInt8} (hs : s.length = 32) : setMany (flatM L) (i * 32) (bys s) = flatM (L.set i s) := by
 have e : L = L.take i ++ L[i] :: L.drop (i + 1) := by rw [← List.drop_eq_getElem_cons hi, List.take_append_drop]
 have h1 : L[i].length = 32 := h _ (List.getElem_mem hi)
 have hA : ∀ s ∈ L.take i, s.length = 32 := fun s hs => h s (List.mem_of_mem_take hs)
 have hl : (flatM (L.take i)).length = i * 32 := by rw [flatM_len hA, List.length_take]; congr 1; omega
 have e2 : L.set i s = L.take i ++ s :: L.drop (i + 1) := by
  have hk : (L.take i).length = i := by rw [List.length_take]; omega
  conv => lhs; rw [e]
  rw [List.set_append_right _ _ (by omega), hk, Nat.sub_self]; rfl
 have e3 : flatM L = flatM (L.take i) ++ (bys L[i] ++ flatM (L.drop (i + 1))) := by
  conv => lhs; rw [e]
  simp only [flatM, List.map_append, List.map_cons, List.flatten_append, List.flatten_cons]
 rw [e2, e3, ← hl, setMany_mid2 _ _ _ _ (by rw [bys_len, bys_len, h1, hs])]
 simp only [flatM, List.map_append, List.map_cons, List.flatten_append, List.flatten_cons]
theorem flatM_plain : ∀ L : List (List UInt8), (flatM L).all V.plain = true
 | [] => rfl
 | s :: L => by
  have := flatM_plain L
  simp only [flatM, List.map_cons, List.flatten_cons, List.all_append, bys_plain] at this ⊢
  simpa using this
theorem flatM_strip : ∀ L : List (List UInt8), (flatM L).map V.strip = flatM L
 | [] => rfl
 | s :: L => by
  have := flatM_strip L
  simp only [flatM, List.map_cons, List.flatten_cons, List.map_append, bys_strip] at this ⊢
  rw [this]
theorem flatM_chunk {L : List (List UInt8)} (h : ∀ s ∈ L, s.length = 32) : chunk 32 (flatM L) 0 L.length = L.map bys := by
 have := chunk_flatten (k := 32) (rows := L.map bys) [] (fun r hr => by
  obtain ⟨s, hs, rfl⟩ := List.mem_map.1 hr
  rw [bys_len, h s hs])
 simpa using this
theorem Wr.drop33 {x : Wr} (h : x.s.length = 32) : x.cells.drop 33 = [iw x.k, iw x.id, iw x.ep] := by
 have : (bys x.s).length = 32 := by simp [bys, h]
 simp only [Wr.cells, List.drop_succ_cons]
 rw [← this, List.drop_left]
theorem with_loop {ws : List Wr} (hw : ∀ x ∈ ws, x.s.length = 32) (hwl : ws.length ≤ 1000) (n : Nat) (hn : n ≤ 65) (k : List Item) (Q : Option (V × Heap) → Prop)
  (Z : List (List UInt8)) (he : ∀ φ, Fr.get φ 5 = .ms 0 0 n n → Q (M (eval tbl noExt) k φ [some (flatM Z)])) :
  ∀ (r : List Wr) (j : Nat) (L : List (List UInt8)) (φ : Fr), ws.drop j = r → L.length = n → (∀ s ∈ L, s.length = 32) → Z = r.foldl wstep L → Fr.get φ 1 = .sl 36 (ws.map Wr.cells) → Fr.get φ 5 = .ms 0 0 n n → Fr.get φ 6 = iw j →
   Q (M (eval tbl noExt) (.code l_flotsamref09_With_0 :: .blk 0 :: k) φ [some (flatM L)]) := by
 intro r
 induction r with
 | nil =>
  intro j L φ hd hL hs hZ h1 h5 h6
  have hj : ws.length ≤ j := by rw [← Nat.sub_eq_zero_iff_le, ← List.length_drop, hd]; rfl
  have hlt : ¬ ((j : Int) < ws.length) := by omega
  have hlt' : ¬ (j < ws.length) := by omega
  rw [l_flotsamref09_With_0, M_loop, ← l_flotsamref09_With_0]
  simp [b_flotsamref09_With_0, h1, h5, h6, hlt']
  rw [← show Z = L from hZ]
  exact he _ (by simp [h5])
 | cons x r ih =>
  intro j L φ hd hL hs hZ h1 h5 h6
  have hj : j < ws.length := by
   have : (ws.drop j).length = r.length + 1 := by rw [hd]; rfl
   rw [List.length_drop] at this; omega
  have hlt : (j : Int) < ws.length := by omega
  have hLx : ws[j]? = some x := by rw [← List.head?_drop, hd]; rfl
  have hd1 : ws.drop (j + 1) = r := by rw [← List.tail_drop, hd]; rfl
  have hx := hw x (List.mem_of_getElem? hLx)
  have hg : ∀ h, ws[j]'h = x := fun h => by rw [List.getElem?_eq_getElem h] at hLx; exact Option.some.inj hLx
  have hwj : IntKind.i64.wrap ((j : Int) + 1) = ((j + 1 : Nat) : Int) := by rw [w64 (by omega) (by omega)]; rfl
  have g0 : ∀ h, x.cells[0]'h = iw x.pos := fun _ => rfl
  have q1 := Wr.len hx
  have q8 : List.take 32 (List.map V.strip x.cells).tail = bys x.s := by rw [Wr.strip, ← Wr.mid hx]; rfl
  simp only [List.foldl_cons] at hZ
  rw [l_flotsamref09_With_0, M_loop, ← l_flotsamref09_With_0]
  by_cases hp : 0 ≤ x.pos
  ·by_cases hp2 : x.pos < n
   ·obtain ⟨p, hpp⟩ : ∃ p : Nat, x.pos = p := ⟨x.pos.toNat, by omega⟩
    have e : wstep L x = L.set p x.s := by
     unfold wstep
     rw [if_pos (by omega), hpp]; rfl
    have hp3 : p < n := by omega
    have f1 := flat_put hs (i := p) (by omega) hx
    have f2 := flatM_len hs
    have q10 : (bys x.s).length = 32 := by rw [bys_len, hx]
    have q12 := bys_one x.s
    have q13 := fun n => bys_under n x.s
    have f3 : p * 32 + 32 ≤ n * 32 := by omega
    rw [e] at hZ
    rw [hpp] at g0
    simp [-List.all_eq_true, b_flotsamref09_With_0, h1, h5, h6, hlt, hj, hg, hwj, g0, hpp, hp3, hp2, q1, q8, q10, q12, q13, f1, f2, f3, hL]
    refine ih (j + 1) _ _ hd1 (by simp [hL]) (fun s hs' => ?_) hZ ?_ ?_ ?_
    ·rcases List.mem_or_eq_of_mem_set hs' with h1 | h1
     ·exact hs s h1
     ·rw [h1]; exact hx
    all_goals simp [h1, h5]
   ·have e : wstep L x = L := by unfold wstep; rw [if_neg (by omega)]
    rw [e] at hZ
    simp [b_flotsamref09_With_0, h1, h5, h6, hlt, hj, hg, hwj, g0, hp, hp2, q1]
    refine ih (j + 1) L _ hd1 hL hs hZ ?_ ?_ ?_
    all_goals simp [h1, h5]
  ·have e : wstep L x = L := by unfold wstep; rw [if_neg (by omega)]
   rw [e] at hZ
   simp [b_flotsamref09_With_0, h1, h5, h6, hlt, hj, hg, hwj, g0, hp, q1]
   refine ih (j + 1) L _ hd1 hL hs hZ ?_ ?_ ?_
   all_goals simp [h1, h5]
theorem fold_sec : ∀ (ws : List Wr) (L : List (List UInt8)), (∀ x ∈ ws, x.s.length = 32) → (∀ s ∈ L, s.length = 32) → (∀ s ∈ ws.foldl wstep L, s.length = 32) ∧ (ws.foldl wstep L).length = L.length
 | [], L, _, h => ⟨h, rfl⟩
 | x :: ws, L, hw, h => by
  have := fold_sec ws (wstep L x) (fun y hy => hw y (List.mem_cons_of_mem _ hy)) (wstep_sec h (hw x (List.mem_cons_self ..)))
  rw [wstep_len] at this
  exact this
theorem With_eq {l : List (List UInt8)} {ws : List Wr} (hl : ∀ s ∈ l, s.length = 32) (hll : l.length ≤ 1000) (hw : ∀ x ∈ ws, x.s.length = 32) (hwl : ws.length ≤ 1000) :
  eval tbl noExt n_flotsamref09_With [imgV l, .sl 36 (ws.map Wr.cells)] [] = some (if 1 ≤ l.length ∧ l.length ≤ 65 then imgV (withM l ws) else .own 32 [], []) := by
 rw [eval_M rfl rfl t_flotsamref09_With rfl]
 by_cases h1 : 1 ≤ l.length
 ·by_cases h2 : l.length ≤ 65
  ·have e : withM l ws = ws.foldl wstep l := by unfold withM; rw [if_pos ⟨h1, h2⟩]
   rw [if_pos ⟨h1, h2⟩]
   have g1 : ¬ (l.length : Int) < 1 := by omega
   have g2 : ¬ (65 : Int) < l.length := by omega
   have g1' : ¬ l.length = 0 := by omega
   have g2' : ¬ 65 < l.length := by omega
   have g3 : ¬ l = [] := fun h => g1' (by rw [h]; rfl)
   have g4 : 2 * l.length * 32 ≤ 281474976710656 := by omega
   have g5 : ((l.map bys).all fun r => r.all V.plain) = true := by
    rw [List.all_eq_true]
    intro r hr
    obtain ⟨s, _, rfl⟩ := List.mem_map.1 hr
    exact bys_plain s
   rw [e]
   simp [-List.all_eq_true, -List.all_map, c_flotsamref09_With, g1, g2, g1', g2', g3, g4, g5]
   obtain ⟨fs, fl⟩ := fold_sec ws l hw hl
   refine with_loop hw hwl l.length h2 _ (fun x => x = some (imgV (ws.foldl wstep l), [])) _ ?_ ws 0 l _ rfl rfl hl rfl ?_ ?_ ?_
   ·intro φ h5
    have c1 := flatM_len fs
    have c2 := flatM_plain (ws.foldl wstep l)
    have c3 := flatM_strip (ws.foldl wstep l)
    have c4 := flatM_chunk fs
    rw [fl] at c1 c4
    generalize ws.foldl wstep l = X at *
    simp only [flatM] at c1 c2 c3 c4 ⊢
    simp [-List.all_eq_true, -List.all_flatten, -List.length_flatten, -List.map_flatten, r_flotsamref09_With_0, h5, c1, c2, c3, c4]
   all_goals simp
  ·rw [if_neg (by omega)]
   have g1 : ¬ (l.length : Int) < 1 := by omega
   have g2 : (65 : Int) < l.length := by omega
   have g1' : ¬ l.length = 0 := by omega
   have g2' : 65 < l.length := by omega
   have g3 : ¬ l = [] := fun h => g1' (by rw [h]; rfl)
   simp [c_flotsamref09_With, g1, g2, g1', g2', g3]
 ·rw [if_neg (by omega)]
  have g1 : (l.length : Int) < 1 := by omega
  have g1' : l.length = 0 := by omega
  have g3 : l = [] := List.eq_nil_of_length_eq_zero g1'
  rw [g3]
  simp [c_flotsamref09_With]
theorem fails_eq (d : Dsk) (o : Option (List V)) (L : Heap) : eval tbl noExt n_pbdisk_faults_fails [.ptr 1 0] (o :: some d.cells :: L) = some (.bool false, o :: some ({ d with next := IntKind.i64.wrap (d.next + 1) } : Dsk).cells :: L) := by
 have hc : d.cells = [.nilm, iw d.next, .sl 32 (d.safe.map bys), wv 36 (d.wait.map Wr.cells), wv 38 d.log, iw 0] := rfl
 have hc2 : ({ d with next := IntKind.i64.wrap (d.next + 1) } : Dsk).cells = [.nilm, iw (IntKind.i64.wrap (d.next + 1)), .sl 32 (d.safe.map bys), wv 36 (d.wait.map Wr.cells), wv 38 d.log, iw 0] := rfl
 rw [eval_M rfl rfl t_pbdisk_faults_fails rfl, hc, hc2]
 simp [c_pbdisk_faults_fails, mapOf, keyWell, keyOf, eqCells, lookOf, keyAt]
def Dsk.write (d : Dsk) (x : Wr) : Dsk :=
 if 0 ≤ x.pos ∧ x.pos < d.safe.length then ⟨IntKind.i64.wrap (d.next + 1), d.safe, d.wait ++ [⟨x.pos, x.s, x.k, x.id, 0⟩], d.log ++ [iw 1 :: ((⟨x.pos, x.s, x.k, x.id, 0⟩ : Wr).cells ++ [.sl 2 []])]⟩
 else { d with next := IntKind.i64.wrap (d.next + 1) }
theorem wv_app (k : Nat) (l : List (List V)) (r : List V) : wv k (l ++ [r]) = .own k (l ++ [r]) := by cases l <;> rfl
theorem note_eq (d : Dsk) (o : Option (List V)) (L : Heap) (r : List V) (hr : r.length = 38) (h1 : r.all V.plain = true) (h2 : r.map V.strip = r) (h3 : V.isUndef (.agg r) = false) (hl : d.log.length ≤ 2000) :
  eval tbl noExt n_pbdisk_Disk_note [.ptr 1 0, .agg r] (o :: some d.cells :: L) = some (iw 0, o :: some ({ d with log := d.log ++ [r] } : Dsk).cells :: L) := by
 have hc : d.cells = [.nilm, iw d.next, .sl 32 (d.safe.map bys), wv 36 (d.wait.map Wr.cells), wv 38 d.log, iw 0] := rfl
 have hc2 : ({ d with log := d.log ++ [r] } : Dsk).cells = [.nilm, iw d.next, .sl 32 (d.safe.map bys), wv 36 (d.wait.map Wr.cells), .own 38 (d.log ++ [r]), iw 0] := by unfold Dsk.cells; rw [wv_app]
 have g1 : 2 * (d.log.length + 1) * 96 ≤ 281474976710656 := by omega
 have g0 := fun x q => get0 (o :: some d.cells :: L) x q
 have q5 : r.take 38 = r := List.take_of_length_le (by omega)
 have q6 : ∀ a : List V, a.length = 38 → setMany a 0 r = r := fun a ha => setMany_self2 a r (by omega)
 rw [eval_M rfl rfl t_pbdisk_Disk_note rfl, hc2]
 rw [hc]
 cases hL : d.log with
 | nil =>
  simp [-List.all_eq_true, c_pbdisk_Disk_note, wv, gk0, gk, sk0, sk, hr, h1, h2, q5, q6]
 | cons y l =>
  rw [hL] at g1
  simp only [List.length_cons] at g1
  simp [-List.all_eq_true, c_pbdisk_Disk_note, wv, gk0, gk, sk0, sk, hr, h1, h2, q5, q6, g1]
theorem Write_eq (o : Option (List V)) (d : Dsk) (ok : d.ok) (x : Wr) (hx : x.s.length = 32) (hl : d.log.length ≤ 2000) :
  ∃ e, eval tbl noExt n_pbdisk_Disk_Write [.ptr 1 0, iw x.pos, .agg (bys x.s), .agg [iw x.k, iw x.id]] [o, some d.cells] = some (iw e, [o, some (d.write x).cells]) := by
 have hN := fun L : Heap => none_eq (o :: some d.cells :: L) d rfl ok
 have hF := fun L : Heap => fails_eq d o L
 obtain ⟨d1, hd1⟩ : ∃ d1 : Dsk, d1 = { d with next := IntKind.i64.wrap (d.next + 1) } := ⟨_, rfl⟩
 rw [← hd1] at hF
 have ok1 : d1.ok := by rw [hd1]; exact ⟨ok.low, ok.high, ok.sec, ok.wok, ok.wl⟩
 have hH := fun L : Heap => has_eq (o :: some d1.cells :: L) d1 rfl ok1 x.pos
 have es : d1.safe = d.safe := by rw [hd1]
 have q9 := h32 (bys_ok hx)
 have q10 : (bys x.s).length = 32 := by simp [bys, hx]
 have q11 := bys_strip x.s
 have q12 := bys_one x.s
 have q13 := fun n => bys_under n x.s
 have q14 : (bys x.s).take 32 = bys x.s := List.take_of_length_le (by omega)
 have q15 : (bys x.s).isEmpty = false := by cases h : bys x.s with
  | nil => rw [h] at q10; cases q10
  | cons => rfl
 by_cases hp : 0 ≤ x.pos ∧ x.pos < d.safe.length
 ·have hw : d.write x = ⟨IntKind.i64.wrap (d.next + 1), d.safe, d.wait ++ [⟨x.pos, x.s, x.k, x.id, 0⟩], d.log ++ [iw 1 :: ((⟨x.pos, x.s, x.k, x.id, 0⟩ : Wr).cells ++ [.sl 2 []])]⟩ := by unfold Dsk.write; rw [if_pos hp]
  have hd : (decide (0 ≤ x.pos) && decide (x.pos < d1.safe.length)) = true := by rw [es]; simp [hp]
  obtain ⟨y, hy⟩ : ∃ y : Wr, y = ⟨x.pos, x.s, x.k, x.id, 0⟩ := ⟨_, rfl⟩
  have hyl : y.s.length = 32 := by rw [hy]; exact hx
  have ey : y.cells = iw x.pos :: (bys x.s ++ [iw x.k, iw x.id, iw 0]) := by rw [hy]; rfl
  obtain ⟨d2, hd2⟩ : ∃ d2 : Dsk, d2 = { d1 with wait := d1.wait ++ [y] } := ⟨_, rfl⟩
  have y1 := Wr.len hyl
  have y2 := y.one
  have y3 := y.under
  have y4 := Wr.take hyl
  have y5 := y.strip
  have y6 := y.plain
  have hnote := fun L : Heap => note_eq d2 o L (iw 1 :: (y.cells ++ [.sl 2 []])) (by simp [y1]) (by simpa [V.plain] using y6) (by simp [y5]) rfl (by rw [hd2, hd1]; exact hl)
  have ed : ({ d2 with log := d2.log ++ [iw 1 :: (y.cells ++ [.sl 2 []])] } : Dsk) = d.write x := by rw [hw, hd2, hd1, ← hy]
  rw [ed] at hnote
  refine ⟨0, ?_⟩
  have hc1 : d1.cells = [.nilm, iw d1.next, .sl 32 (d1.safe.map bys), wv 36 (d1.wait.map Wr.cells), wv 38 d1.log, iw 0] := rfl
  have hc2 : d2.cells = [.nilm, iw d1.next, .sl 32 (d1.safe.map bys), .own 36 (d1.wait.map Wr.cells ++ [y.cells]), wv 38 d1.log, iw 0] := by
   rw [hd2]; unfold Dsk.cells
   rw [List.map_append, List.map_cons, List.map_nil, wv_app]
  have ov : overlay [.int .i64 0, .int .u8 0, .int .u8 0, .int .u8 0, .int .u8 0, .int .u8 0, .int .u8 0, .int .u8 0, .int .u8 0, .int .u8 0, .int .u8 0, .int .u8 0, .int .u8 0, .int .u8 0, .int .u8 0, .int .u8 0, .int .u8 0, .int .u8 0, .int .u8 0, .int .u8 0, .int .u8 0, .int .u8 0, .int .u8 0, .int .u8 0, .int .u8 0, .int .u8 0, .int .u8 0, .int .u8 0, .int .u8 0, .int .u8 0, .int .u8 0, .int .u8 0, .int .u8 0, .int .i64 0, .int .i64 0, .int .i64 0] [(0, [iw x.pos]), (1, bys x.s), (33, [iw x.k, iw x.id]), (35, [iw 0])] = y.cells := by
   have e1 := setMany_mid2 [iw x.pos] (List.replicate 32 (u8 0)) (bys x.s) [iw 0, iw 0, iw 0] (by simp [q10])
   have e2 := setMany_mid2 (iw x.pos :: bys x.s) [iw 0, iw 0] [iw x.k, iw x.id] [iw 0] rfl
   have e3 := setMany_mid2 (iw x.pos :: (bys x.s ++ [iw x.k, iw x.id])) [iw 0] [iw 0] [] rfl
   simp only [List.length_cons, List.length_append, List.length_nil, q10, List.cons_append, List.nil_append, List.append_assoc, List.append_nil] at e1 e2 e3
   show setMany (setMany (setMany (iw x.pos :: (List.replicate 32 (u8 0) ++ [iw 0, iw 0, iw 0])) 1 (bys x.s)) 33 [iw x.k, iw x.id]) 35 [iw 0] = _
   rw [e1, e2, e3, ey]
  have ov3 : ∀ a : List V, a.length = 36 → overlay a [(0, y.cells)] = y.cells := fun a ha => by
   simp only [overlay]; exact setMany_self2 a _ (by omega)
  have q16 : ∀ a : List V, a.length = 36 → setMany a 0 y.cells = y.cells := fun a ha => setMany_self2 a _ (by omega)
  have ov2 : overlay [.int .i64 0, .int .i64 0, .int .u8 0, .int .u8 0, .int .u8 0, .int .u8 0, .int .u8 0, .int .u8 0, .int .u8 0, .int .u8 0, .int .u8 0, .int .u8 0, .int .u8 0, .int .u8 0, .int .u8 0, .int .u8 0, .int .u8 0, .int .u8 0, .int .u8 0, .int .u8 0, .int .u8 0, .int .u8 0, .int .u8 0, .int .u8 0, .int .u8 0, .int .u8 0, .int .u8 0, .int .u8 0, .int .u8 0, .int .u8 0, .int .u8 0, .int .u8 0, .int .u8 0, .int .u8 0, .int .i64 0, .int .i64 0, .int .i64 0, .sl 2 []] [(0, [iw 1]), (1, y.cells)] = iw 1 :: (y.cells ++ [.sl 2 []]) := by
   have e1 := setMany_mid2 [iw 1] (iw 0 :: (List.replicate 32 (u8 0) ++ [iw 0, iw 0, iw 0])) y.cells [.sl 2 []] (by simp [y1])
   simp only [List.length_cons, List.length_nil, List.cons_append, List.nil_append, List.append_assoc] at e1
   exact e1
  rw [eval_M rfl rfl t_pbdisk_Disk_Write rfl]
  obtain ⟨g, hg⟩ : ∃ g, g = d1.wait.map Wr.cells := ⟨_, rfl⟩
  have gl : g.length ≤ 1000 := by rw [hg, List.length_map, hd1]; exact ok.wl
  rw [← hg] at hc1 hc2
  obtain ⟨lg, hlg⟩ : ∃ lg, lg = wv 38 d1.log := ⟨_, rfl⟩
  have hlg2 := wv_strip 38 d1.log
  rw [← hlg] at hc1 hc2 hlg2
  simp only [V.strip] at hlg2
  dsimp only at ov ov2
  have hws := wv_strip 36 g
  simp only [V.strip] at hws
  cases hL : g with
  | nil =>
   rw [hL] at hc1 hc2
   simp only [wv, List.nil_append] at hc1 hc2
   rw [hc2] at hnote
   rw [hc1] at hF hH
   simp [-List.all_eq_true, -overlay, c_pbdisk_Disk_Write, hN, hF, hH, hd, q9, q10, q11, q12, q13, q14, ov, ov2, ov3, y1, y2, y3, y4, y5, y6, q16, hnote]
  | cons z g' =>
   rw [hL] at hc1 hc2 gl
   simp only [wv, List.cons_append, List.length_cons] at hc1 hc2 gl
   rw [hc2] at hnote
   rw [hc1] at hF hH
   have g1 : 2 * (g'.length + 1 + 1) * 64 ≤ 281474976710656 := by omega
   simp [-List.all_eq_true, -overlay, c_pbdisk_Disk_Write, hN, hF, hH, hd, q9, q10, q11, q12, q13, q14, ov, ov2, ov3, y1, y2, y3, y4, y5, y6, q16, hnote, g1]
 ·have hw : d.write x = d1 := by unfold Dsk.write; rw [if_neg hp, hd1]
  have hd : (decide (0 ≤ x.pos) && decide (x.pos < d1.safe.length)) = false := by
   rw [es, Bool.eq_false_iff]; intro h2; simp only [Bool.and_eq_true, decide_eq_true_eq] at h2; exact hp h2
  refine ⟨1, ?_⟩
  rw [hw, eval_M rfl rfl t_pbdisk_Disk_Write rfl]
  simp [-List.all_eq_true, c_pbdisk_Disk_Write, hN, hF, hH, hd]
theorem cloneS_eq (l : List (List UInt8)) (h0 : l ≠ []) (hl : l.length ≤ 1000) : ∀ H, eval tbl noExt n_slices_Clone_api_Sector_api_Sector [imgV l] H = some (.own 32 (l.map bys), H) := by
 intro H
 have h1 : ¬ l.length = 0 := fun h => h0 (List.eq_nil_of_length_eq_zero h)
 have g4 : 2 * l.length * 32 ≤ 281474976710656 := by omega
 have g5 : ((l.map bys).all fun r => r.all V.plain) = true := by
  rw [List.all_eq_true]
  intro r hr
  obtain ⟨s, _, rfl⟩ := List.mem_map.1 hr
  exact bys_plain s
 rw [eval_M rfl rfl t_slices_Clone_api_Sector_api_Sector rfl]
 simp [-List.all_eq_true, -List.all_map, c_slices_Clone_api_Sector_api_Sector, h0, h1, g4, g5]
def dsk0 (l : List (List UInt8)) : Dsk := ⟨0, l, [], []⟩
theorem New_ok (n : Nat) (h1 : 1 ≤ n) (h2 : n ≤ 65) : ∃ o, eval tbl noExt n_bdisk_New [iw n] [] = some (.tup [.ptr 0 0, iw 0], [some o]) := by
 have g1 : ¬ (n : Int) < 1 := by omega
 have g2 : ¬ (65 : Int) < n := by omega
 have g1' : ¬ n = 0 := by omega
 have g2' : ¬ 65 < n := by omega
 have g3 : n ≤ 2 ^ 24 := by omega
 have g4 : (n : Int) ≤ 16777216 := by omega
 have g5 : n ≤ 16777216 := by omega
 rw [eval_M rfl rfl t_bdisk_New rfl]
 simp [c_bdisk_New, g1, g2, g1', g2', g4, g5]
theorem New_bad (n : Nat) (h : n < 1 ∨ 65 < n) : eval tbl noExt n_bdisk_New [iw n] [] = some (.tup [.nilp, iw 1], []) := by
 rw [eval_M rfl rfl t_bdisk_New rfl]
 rcases h with h | h
 ·obtain rfl : n = 0 := by omega
  simp [c_bdisk_New]
 ·have g1 : ¬ n = 0 := by omega
  have g2 : (65 : Int) < n := by omega
  have g3 : ¬ (n : Int) < 1 := by omega
  simp [c_bdisk_New, h, g1, g2, g3]
theorem From_ok (l : List (List UInt8)) (h1 : 1 ≤ l.length) (h2 : l.length ≤ 65) : ∃ o, eval tbl noExt n_bdisk_From [imgV l] [] = some (.tup [.ptr 1 0, iw 0], [some o, some (dsk0 l).cells]) := by
 obtain ⟨o, hN⟩ := New_ok l.length h1 h2
 have h0 : l ≠ [] := fun h => by rw [h] at h1; simp at h1
 have hC := cloneS_eq l h0 (by omega)
 have hc : (dsk0 l).cells = [.nilm, iw 0, .sl 32 (l.map bys), .nils 36, .nils 38, iw 0] := rfl
 refine ⟨o, ?_⟩
 rw [eval_M rfl rfl t_bdisk_From rfl, hc]
 simp [c_bdisk_From, hN, hC]
theorem From_bad (l : List (List UInt8)) (h : l.length < 1 ∨ 65 < l.length) : eval tbl noExt n_bdisk_From [imgV l] [] = some (.tup [.nilp, iw 1], []) := by
 have hN := New_bad l.length h
 rw [eval_M rfl rfl t_bdisk_From rfl]
 simp [c_bdisk_From, hN]
def dwrite (d : Dsk) (ws : List Wr) : Dsk := ws.foldl Dsk.write d
structure Dsk.fit (d : Dsk) (n : Nat) : Prop where
 ok : d.safe.length = n ∧ 1 ≤ n ∧ n ≤ 65
 sec : ∀ s ∈ d.safe, s.length = 32
 wok : ∀ x ∈ d.wait, x.s.length = 32
theorem write_fit {d : Dsk} {n : Nat} (h : d.fit n) {x : Wr} (hx : x.s.length = 32) : (d.write x).fit n ∧ (d.write x).wait.length ≤ d.wait.length + 1 ∧ (d.write x).log.length ≤ d.log.length + 1 := by
 unfold Dsk.write
 split
 ·refine ⟨⟨h.ok, h.sec, fun y hy => ?_⟩, by simp, by simp⟩
  rcases List.mem_append.1 hy with hy | hy
  ·exact h.wok y hy
  ·simp only [List.mem_singleton] at hy; rw [hy]; exact hx
 ·exact ⟨⟨h.ok, h.sec, h.wok⟩, by simp, by simp⟩
theorem disk_loop {ws : List Wr} (hw : ∀ x ∈ ws, x.s.length = 32) (hwl : ws.length ≤ 40) (n : Nat) (o : Option (List V)) (k : List Item) (Q : Option (V × Heap) → Prop)
  (Z : Dsk) (he : ∀ φ, Fr.get φ 5 = .ptr 1 0 → Q (M (eval tbl noExt) k φ [o, some Z.cells])) :
  ∀ (r : List Wr) (j : Nat) (d : Dsk) (φ : Fr), ws.drop j = r → d.fit n → d.wait.length ≤ j → d.log.length ≤ j → Z = dwrite d r → Fr.get φ 1 = .sl 36 (ws.map Wr.cells) → Fr.get φ 5 = .ptr 1 0 → Fr.get φ 7 = iw j →
   Q (M (eval tbl noExt) (.code l_flotsamlaw09_Disk_0 :: .blk 0 :: k) φ [o, some d.cells]) := by
 intro r
 induction r with
 | nil =>
  intro j d φ hd hf hj1 hj2 hZ h1 h5 h7
  have hj : ws.length ≤ j := by rw [← Nat.sub_eq_zero_iff_le, ← List.length_drop, hd]; rfl
  have hlt : ¬ ((j : Int) < ws.length) := by omega
  have hlt' : ¬ (j < ws.length) := by omega
  rw [l_flotsamlaw09_Disk_0, M_loop, ← l_flotsamlaw09_Disk_0]
  simp [b_flotsamlaw09_Disk_0, h1, h5, h7, hlt']
  rw [← show Z = d from hZ]
  exact he _ (by simp [h5])
 | cons x r ih =>
  intro j d φ hd hf hj1 hj2 hZ h1 h5 h7
  have hj : j < ws.length := by
   have : (ws.drop j).length = r.length + 1 := by rw [hd]; rfl
   rw [List.length_drop] at this; omega
  have hlt : (j : Int) < ws.length := by omega
  have hLx : ws[j]? = some x := by rw [← List.head?_drop, hd]; rfl
  have hd1 : ws.drop (j + 1) = r := by rw [← List.tail_drop, hd]; rfl
  have hx := hw x (List.mem_of_getElem? hLx)
  have hg : ∀ h, ws[j]'h = x := fun h => by rw [List.getElem?_eq_getElem h] at hLx; exact Option.some.inj hLx
  have hwj : IntKind.i64.wrap ((j : Int) + 1) = ((j + 1 : Nat) : Int) := by rw [w64 (by omega) (by omega)]; rfl
  have g0 : ∀ h, x.cells[0]'h = iw x.pos := fun _ => rfl
  have q1 := Wr.len hx
  have q8 : List.take 32 (List.map V.strip x.cells).tail = bys x.s := by rw [Wr.strip, ← Wr.mid hx]; rfl
  have q9 : List.take 2 (List.drop 33 (List.map V.strip x.cells)) = [iw x.k, iw x.id] := by rw [Wr.strip, Wr.drop33 hx]; rfl
  obtain ⟨e, hW⟩ := Write_eq o d ⟨by rw [hf.ok.1]; exact hf.ok.2.1, by rw [hf.ok.1]; exact hf.ok.2.2, hf.sec, hf.wok, by omega⟩ x hx (by omega)
  obtain ⟨f1, f2, f3⟩ := write_fit hf hx
  rw [l_flotsamlaw09_Disk_0, M_loop, ← l_flotsamlaw09_Disk_0]
  simp [b_flotsamlaw09_Disk_0, h1, h5, h7, hlt, hj, hg, hwj, g0, q1, q8, q9, hW]
  refine ih (j + 1) _ _ hd1 f1 (by omega) (by omega) hZ ?_ ?_ ?_
  all_goals simp [h1, h5]
theorem disk_loop_nil {ws : List Wr} (hw : ∀ x ∈ ws, x.s.length = 32) (hwl : ws.length ≤ 40) (k : List Item) (Q : Option (V × Heap) → Prop)
  (he : ∀ φ A, Fr.get φ 5 = .nilp → Q (M (eval tbl noExt) k φ A)) :
  ∀ (r : List Wr) (j : Nat) (φ : Fr) (A : Heap), ws.drop j = r → Fr.get φ 1 = .sl 36 (ws.map Wr.cells) → Fr.get φ 5 = .nilp → Fr.get φ 7 = iw j →
   Q (M (eval tbl noExt) (.code l_flotsamlaw09_Disk_0 :: .blk 0 :: k) φ A) := by
 intro r
 induction r with
 | nil =>
  intro j φ A hd h1 h5 h7
  have hj : ws.length ≤ j := by rw [← Nat.sub_eq_zero_iff_le, ← List.length_drop, hd]; rfl
  have hlt' : ¬ (j < ws.length) := by omega
  rw [l_flotsamlaw09_Disk_0, M_loop, ← l_flotsamlaw09_Disk_0]
  simp [b_flotsamlaw09_Disk_0, h1, h5, h7, hlt']
  exact he _ _ (by simp [h5])
 | cons x r ih =>
  intro j φ A hd h1 h5 h7
  have hj : j < ws.length := by
   have : (ws.drop j).length = r.length + 1 := by rw [hd]; rfl
   rw [List.length_drop] at this; omega
  have hlt : (j : Int) < ws.length := by omega
  have hLx : ws[j]? = some x := by rw [← List.head?_drop, hd]; rfl
  have hd1 : ws.drop (j + 1) = r := by rw [← List.tail_drop, hd]; rfl
  have hx := hw x (List.mem_of_getElem? hLx)
  have hg : ∀ h, ws[j]'h = x := fun h => by rw [List.getElem?_eq_getElem h] at hLx; exact Option.some.inj hLx
  have hwj : IntKind.i64.wrap ((j : Int) + 1) = ((j + 1 : Nat) : Int) := by rw [w64 (by omega) (by omega)]; rfl
  have g0 : ∀ h, x.cells[0]'h = iw x.pos := fun _ => rfl
  have q1 := Wr.len hx
  have q8 : List.take 32 (List.map V.strip x.cells).tail = bys x.s := by rw [Wr.strip, ← Wr.mid hx]; rfl
  have q9 : List.take 2 (List.drop 33 (List.map V.strip x.cells)) = [iw x.k, iw x.id] := by rw [Wr.strip, Wr.drop33 hx]; rfl
  have hN := fun L => none_nil (A ++ L)
  have hW : eval tbl noExt n_pbdisk_Disk_Write [.nilp, iw x.pos, .agg (bys x.s), .agg [iw x.k, iw x.id]] A = some (iw 1, A) := by
   have q15 : V.isUndef (.agg (bys x.s)) = false := rfl
   rw [eval_M rfl rfl t_pbdisk_Disk_Write rfl]
   simp [-List.all_eq_true, c_pbdisk_Disk_Write, hN, tk0]
  rw [l_flotsamlaw09_Disk_0, M_loop, ← l_flotsamlaw09_Disk_0]
  simp [b_flotsamlaw09_Disk_0, h1, h5, h7, hlt, hj, hg, hwj, g0, q1, q8, q9, hW]
  refine ih (j + 1) _ _ hd1 ?_ ?_ ?_
  all_goals simp [h1, h5]
theorem at_write {d : Dsk} {x : Wr} {L : List (List UInt8)} (hd : L.length = d.safe.length) (h : ∀ n : Nat, d.at n = L.getD n zero32) : ∀ n : Nat, (d.write x).at n = (wstep L x).getD n zero32 := by
 intro n
 by_cases hp : 0 ≤ x.pos ∧ x.pos < d.safe.length
 ·have e1 : d.write x = ⟨IntKind.i64.wrap (d.next + 1), d.safe, d.wait ++ [⟨x.pos, x.s, x.k, x.id, 0⟩], d.log ++ [iw 1 :: ((⟨x.pos, x.s, x.k, x.id, 0⟩ : Wr).cells ++ [.sl 2 []])]⟩ := by unfold Dsk.write; rw [if_pos hp]
  have e2 : wstep L x = L.set x.pos.toNat x.s := by unfold wstep; rw [if_pos (by rw [hd]; exact hp)]
  have h1 := h n
  rw [e1, e2]
  unfold Dsk.at at h1 ⊢
  by_cases hn : 0 ≤ (n : Int) ∧ (n : Int) < d.safe.length
  ·rw [if_pos hn] at h1 ⊢
   rw [lastAt_snoc]
   by_cases e : x.pos = n
   ·rw [if_pos e]
    have e3 : x.pos.toNat = n := by omega
    dsimp only
    rw [e3, List.getD_eq_getElem?_getD, List.getElem?_set_self (by omega)]
    rfl
   ·rw [if_neg e, h1, List.getD_eq_getElem?_getD, List.getD_eq_getElem?_getD, List.getElem?_set_ne (by omega)]
  ·rw [if_neg hn]
   rw [List.getD_eq_getElem?_getD, List.getElem?_eq_none (by simp; omega)]
   rfl
 ·have e1 : d.write x = { d with next := IntKind.i64.wrap (d.next + 1) } := by unfold Dsk.write; rw [if_neg hp]
  have e2 : wstep L x = L := by unfold wstep; rw [if_neg (by rw [hd]; exact hp)]
  rw [e1, e2]
  exact h n
theorem at_fold : ∀ (ws : List Wr) (d : Dsk) (L : List (List UInt8)) (n : Nat), d.fit n → (∀ x ∈ ws, x.s.length = 32) → L.length = n → (∀ n : Nat, d.at n = L.getD n zero32) →
  (dwrite d ws).fit n ∧ (∀ n : Nat, (dwrite d ws).at n = (ws.foldl wstep L).getD n zero32) ∧ (dwrite d ws).wait.length ≤ d.wait.length + ws.length
 | [], d, L, n, hf, _, _, h => ⟨hf, h, by simp [dwrite]⟩
 | x :: ws, d, L, n, hf, hw, hL, h => by
  have hx := hw x (List.mem_cons_self ..)
  obtain ⟨f1, f2, _⟩ := write_fit hf hx
  have := at_fold ws (d.write x) (wstep L x) n f1 (fun y hy => hw y (List.mem_cons_of_mem _ hy)) (by rw [wstep_len]; exact hL) (at_write (by rw [hL, hf.ok.1]) h)
  obtain ⟨a, b, c⟩ := this
  exact ⟨a, b, by simp only [List.length_cons]; exact Nat.le_trans c (by omega)⟩
theorem Disk_eq {l : List (List UInt8)} {ws : List Wr} (hl : ∀ s ∈ l, s.length = 32) (hw : ∀ x ∈ ws, x.s.length = 32) (hwl : ws.length ≤ 40) :
  ∃ v K, eval tbl noExt n_flotsamlaw09_Disk [imgV l, .sl 36 (ws.map Wr.cells)] [] = some (v, K) ∧ Has K v (withM l ws) := by
 by_cases h : 1 ≤ l.length ∧ l.length ≤ 65
 ·obtain ⟨o, hF⟩ := From_ok l h.1 h.2
  have e : withM l ws = ws.foldl wstep l := by unfold withM; rw [if_pos h]
  have fit0 : (dsk0 l).fit l.length := ⟨⟨rfl, h.1, h.2⟩, hl, fun x hx => by cases hx⟩
  have at0 : ∀ n : Nat, (dsk0 l).at n = l.getD n zero32 := by
   intro n
   unfold Dsk.at
   by_cases hn : 0 ≤ (n : Int) ∧ (n : Int) < (dsk0 l).safe.length
   ·rw [if_pos hn]; rfl
   ·have hn2 : l.length ≤ n := by have : (dsk0 l).safe.length = l.length := rfl; omega
    rw [if_neg hn, List.getD_eq_getElem?_getD, List.getElem?_eq_none hn2]; rfl
  obtain ⟨f1, f2, f3⟩ := at_fold ws (dsk0 l) l l.length fit0 hw rfl at0
  refine ⟨.ptr 1 0, [some o, some (dwrite (dsk0 l) ws).cells], ?_, ?_⟩
  ·rw [eval_M rfl rfl t_flotsamlaw09_Disk rfl]
   simp [c_flotsamlaw09_Disk, hF]
   refine disk_loop hw hwl l.length (some o) _ (fun x => x = some (.ptr 1 0, [some o, some (dwrite (dsk0 l) ws).cells])) (dwrite (dsk0 l) ws) ?_ ws 0 (dsk0 l) _ rfl fit0 (Nat.le_refl _) (Nat.le_refl _) rfl ?_ ?_ ?_
   ·intro φ h5
    simp [r_flotsamlaw09_Disk_0, h5]
   all_goals simp
  ·obtain ⟨fs, fl⟩ := fold_sec ws l hw hl
   refine ⟨by rw [e]; exact fs, by rw [e, fl]; exact h.2, .inr ⟨dwrite (dsk0 l) ws, rfl, rfl, ⟨by rw [f1.ok.1]; exact h.1, by rw [f1.ok.1]; exact h.2, f1.sec, f1.wok, ?_⟩, by rw [e]; exact f2⟩⟩
   have : (dsk0 l).wait.length = 0 := rfl
   omega
 ·have hF := From_bad l (by omega)
  have e : withM l ws = [] := by unfold withM; rw [if_neg h]
  refine ⟨.nilp, [], ?_, ?_⟩
  ·rw [eval_M rfl rfl t_flotsamlaw09_Disk rfl]
   simp [c_flotsamlaw09_Disk, hF]
   refine disk_loop_nil hw hwl _ (fun x => x = some (.nilp, [])) ?_ ws 0 _ _ rfl ?_ ?_ ?_
   ·intro φ A h5
    simp [r_flotsamlaw09_Disk_0, h5]
   all_goals simp
  ·rw [e]
   exact ⟨fun s hs => (by cases hs), by simp, .inl ⟨rfl, rfl⟩⟩
theorem ints_loop (L : List Nat) (hL : L.length ≤ 1000) (H : Heap) (k : List Item) (Q : Option (V × Heap) → Prop) (he : ∀ φ, Q (M (eval tbl noExt) k φ H)) :
  ∀ (r : Nat) (j : Nat) (φ : Fr), j + r = L.length → Fr.get φ 0 = .sl 1 (nr L) → Fr.get φ 1 = .sl 1 (nr L) → Fr.get φ 5 = iw j → Q (M (eval tbl noExt) (.code l_flotsamlaw04_Ints_0 :: .blk 0 :: k) φ H) := by
 intro r
 induction r with
 | zero =>
  intro j φ hj h0 h1 h5
  have hlt' : ¬ (j < L.length) := by omega
  rw [l_flotsamlaw04_Ints_0, M_loop, ← l_flotsamlaw04_Ints_0]
  simp [b_flotsamlaw04_Ints_0, h0, h1, h5, hlt']
  exact he _
 | succ r ih =>
  intro j φ hj h0 h1 h5
  have hlt' : j < L.length := by omega
  have hlt : (j : Int) < L.length := by omega
  have hw : IntKind.i64.wrap ((j : Int) + 1) = ((j + 1 : Nat) : Int) := by rw [w64 (by omega) (by omega)]; rfl
  rw [l_flotsamlaw04_Ints_0, M_loop, ← l_flotsamlaw04_Ints_0]
  simp [b_flotsamlaw04_Ints_0, h0, h1, h5, hlt, hlt', hw]
  refine ih (j + 1) _ (by omega) ?_ ?_ ?_
  all_goals simp [h0, h1]
theorem Ints_same (L : List Nat) (hL : L.length ≤ 1000) (H : Heap) : eval tbl noExt n_flotsamlaw04_Ints [.sl 1 (nr L), .sl 1 (nr L)] H = some (.bool true, H) := by
 rw [eval_M rfl rfl t_flotsamlaw04_Ints rfl]
 simp [c_flotsamlaw04_Ints]
 refine ints_loop L hL H _ (fun x => x = some (.bool true, H)) ?_ L.length 0 _ (by omega) ?_ ?_ ?_
 ·intro φ
  simp [r_flotsamlaw04_Ints_0]
 all_goals simp
theorem knows10 : eval tbl noExt n_flotsamlaw10_knows [] [] = some (.bool true, []) := (eval_iff _ _ _ _ _ _).2 ⟨200, by kernel_rfl⟩
theorem AllocTells_eq (l : List (List UInt8)) (hl : ∀ s ∈ l, s.length = 32) (ws : List Wr) (hw : ∀ x ∈ ws, x.s.length = 32) (n : Int) (hn : (Lit.int .i64 n).wf = true) :
  ∃ H', eval tbl noExt n_flotsamlaw10_AllocTells [.sl 32 (l.map bys), .sl 36 (ws.map Wr.cells), iw n] [] = some (.bool true, H') := by
 have hK := knows10
 by_cases h1 : l.length ≤ 200
 ·by_cases h2 : ws.length ≤ 40
  ·obtain ⟨v, K, hD, hH⟩ := Disk_eq hl hw h2
   have hW := With_eq hl (by omega) hw (by omega)
   have hm := hH.sec
   have a1 := Inode_eq2 hH
   have a2 := Slot_eq2 hH
   have a3 := Blocks_eq2 hH n
   have a4 := Count_eq2 hH
   have b1 := refInode_eq2 hm
   have b2 := refSlot_eq2 hm
   have b3 := refBlocks_eq2 hm n
   have b4 := refCount_eq2 hm
   have hp : pick (blkB (withM l ws)) n 24 1 0 = pick (usedB (withM l ws)) n 24 1 0 := pick_congr n 24 1 0 (fun j h _ => blkB_eq _ h)
   rw [hp] at a3
   have hpl := pick_len (usedB (withM l ws)) n 24 1 0
   have g1 : ¬ (200 : Int) < l.length := by omega
   have g2 : ¬ (40 : Int) < ws.length := by omega
   have g1' : ¬ 200 < l.length := by omega
   have g2' : ¬ 40 < ws.length := by omega
   have hI := Ints_same (pick (usedB (withM l ws)) n 24 1 0) (by omega) []
   have hI0 := Ints_same [] (by simp) []
   simp only [nr, List.map_nil] at hI0
   have h2v := hH.two
   have hWv : ∃ u, eval tbl noExt n_flotsamref09_With [imgV l, .sl 36 (ws.map Wr.cells)] [] = some (u, []) ∧ (u = imgV (withM l ws) ∨ (u = .own 32 [] ∧ withM l ws = [])) := by
    refine ⟨_, hW, ?_⟩
    by_cases h : 1 ≤ l.length ∧ l.length ≤ 65
    ·rw [if_pos h]; exact .inl rfl
    ·rw [if_neg h]; refine .inr ⟨rfl, ?_⟩
     unfold withM; rw [if_neg h]
   clear hW hp
   obtain ⟨u, hW, hu⟩ := hWv
   generalize (pick (fun x : Nat => taken (withM l ws) x) 1 16 0 0) = P1 at *
   generalize (pick (usedK (withM l ws)) 1 24 0 0) = P2 at *
   generalize (pick (usedB (withM l ws)) n 24 1 0) = P3 at *
   generalize cnt (inL (withM l ws) 24) = c1 at *
   generalize cnt (entL (withM l ws) 24) = c2 at *
   generalize cnt (blkL (withM l ws) 16) = c3 at *
   clear hm hH
   generalize withM l ws = m at *
   generalize P1.headD 0 = x1 at *
   generalize P2.headD 0 = x2 at *
   refine ⟨[], ?_⟩
   rw [eval_M rfl rfl t_flotsamlaw10_AllocTells rfl]
   by_cases hn2 : (P3.length : Int) = n
   ·rw [if_pos hn2] at a3 b3
    rcases hu with rfl | ⟨rfl, rfl⟩
    ·rcases h2v with rfl | ⟨rfl, hp⟩ <;>
     simp [c_flotsamlaw10_AllocTells, g1, g2, g1', g2', hK, hD, hW, a1, a2, a3, a4, b1, b2, b3, b4, hI]
    ·simp only [imgV, List.map_nil] at b1 b2 b3 b4
     rcases h2v with rfl | ⟨rfl, hp⟩ <;>
     simp [c_flotsamlaw10_AllocTells, g1, g2, g1', g2', hK, hD, hW, a1, a2, a3, a4, b1, b2, b3, b4, hI]
   ·rw [if_neg hn2] at a3 b3
    rcases hu with rfl | ⟨rfl, rfl⟩
    ·rcases h2v with rfl | ⟨rfl, hp⟩ <;>
     simp [c_flotsamlaw10_AllocTells, g1, g2, g1', g2', hK, hD, hW, a1, a2, a3, a4, b1, b2, b3, b4, hI0]
    ·simp only [imgV, List.map_nil] at b1 b2 b3 b4
     rcases h2v with rfl | ⟨rfl, hp⟩ <;>
     simp [c_flotsamlaw10_AllocTells, g1, g2, g1', g2', hK, hD, hW, a1, a2, a3, a4, b1, b2, b3, b4, hI0]
  ·have g1 : ¬ (200 : Int) < l.length := by omega
   have g2 : (40 : Int) < ws.length := by omega
   have g1' : ¬ 200 < l.length := by omega
   have g2' : 40 < ws.length := by omega
   refine ⟨[], ?_⟩
   rw [eval_M rfl rfl t_flotsamlaw10_AllocTells rfl]
   simp [c_flotsamlaw10_AllocTells, g1, g2, g1', g2', hK]
 ·have g1 : (200 : Int) < l.length := by omega
  have g1' : 200 < l.length := by omega
  refine ⟨[], ?_⟩
  rw [eval_M rfl rfl t_flotsamlaw10_AllocTells rfl]
  simp [c_flotsamlaw10_AllocTells, g1, g1', hK]
end Go.AM.Spec
