/-
 The parts of this proof that speak of the functions one by one.
-/
import Derived.Test.YtfmbdcpdoffdeabDoorSpecAa
import Derived.Test.YtfmbdcpdoffdeabDoorSpc
namespace Go.AM.Spec
set_option linter.unusedVariables false
set_option linter.unusedSimpArgs false
set_option maxHeartbeats 4000000
set_option maxRecDepth 20000
def put4t (L : List Bool) (a b c d : Nat) : List Bool := (((L.set a true).set b true).set c true).set d true
def put6t (L : List Bool) (x : Int × Int × Int × Int × Int × Int) : List Bool := put4t L x.2.2.1.toNat x.2.2.2.1.toNat x.2.2.2.2.1.toNat x.2.2.2.2.2.toNat
theorem put6t_of {x : Int × Int × Int × Int × Int × Int} {a b c d : Nat} (h : Bs x a b c d) (L : List Bool) : put6t L x = put4t L a b c d := by
 obtain ⟨h1, h2, h3, h4⟩ := h.e
 unfold put6t
 rw [h1, h2, h3, h4]
 rfl
noncomputable def usedL (m : List (List UInt8)) : Nat → List Bool
 | 0 => List.replicate 25 false
 | j + 1 => if (ino m j).1 = 1 ∧ taken m j = true then put6t (usedL m j) (ino m j) else usedL m j
noncomputable def usedF (m : List (List UInt8)) : List Bool := (usedL m 16).set 0 true
noncomputable def usedB (m : List (List UInt8)) (b : Nat) : Bool := (usedF m).getD b false
def Like (A B : List Bool) : Prop := A.length = B.length ∧ ∀ i, 1 ≤ i → A[i]? = B[i]?
theorem Like.set {A B : List Bool} (h : Like A B) (a : Nat) : Like (A.set a (decide (0 < a))) (B.set a true) := by
 refine ⟨by simp [h.1], fun i hi => ?_⟩
 by_cases e : a = i
 ·subst e
  rw [List.getElem?_set, List.getElem?_set, h.1]
  have : 0 < a := hi
  simp [this]
 ·rw [List.getElem?_set_ne e, List.getElem?_set_ne e]
  exact h.2 i hi
theorem Like.zero {A B : List Bool} (h : Like A B) (q : Bool) : Like (A.set 0 q) B := by
 refine ⟨by simp [h.1], fun i hi => ?_⟩
 rw [List.getElem?_set_ne (by omega)]
 exact h.2 i hi
theorem Like.zeroR {A B : List Bool} (h : Like A B) (q : Bool) : Like A (B.set 0 q) := by
 refine ⟨by simp [h.1], fun i hi => ?_⟩
 rw [List.getElem?_set_ne (by omega)]
 exact h.2 i hi
theorem blk_like (m : List (List UInt8)) : ∀ j, Like (blkL m j) (usedL m j)
 | 0 => ⟨rfl, fun _ _ => rfl⟩
 | j + 1 => by
  have ih := blk_like m j
  obtain ⟨a, b, c, d, hB⟩ := bs_of m j
  show Like (if _ then _ else _) (if _ then _ else _)
  by_cases ht : taken m j = true
  ·rw [if_pos ht]
   by_cases hk : (ino m j).1 = 1
   ·rw [if_pos ⟨hk, ht⟩, put6_of hB, put6t_of hB]
    exact (((ih.set a).set b).set c).set d
   ·rw [if_neg (by simp [hk]), put6_of hB]
    obtain ⟨rfl, rfl, rfl, rfl⟩ := hB.zero hk
    exact (((ih.zero _).zero _).zero _).zero _
  ·rw [if_neg ht, if_neg (by simp [ht])]
   exact ih
theorem blk_used (m : List (List UInt8)) : Like (blkL m 16) (usedF m) := (blk_like m 16).zeroR true
theorem blkB_eq (m : List (List UInt8)) {b : Nat} (h : 1 ≤ b) : blkB m b = usedB m b := by
 unfold blkB usedB
 rw [List.getD_eq_getElem?_getD, List.getD_eq_getElem?_getD, (blk_used m).2 b h]
theorem inL_map (m : List (List UInt8)) : inL m 24 = (List.range 16).map fun (n : Nat) => taken m n := by
 apply List.ext_getElem?
 intro i
 rcases Nat.lt_or_ge i 16 with h | h
 ·rw [inL_taken m i h, List.getElem?_map, List.getElem?_range h]; rfl
 ·have := inL_len m 24
  rw [List.getElem?_eq_none (by omega), List.getElem?_eq_none (by simp; omega)]
theorem entL_get (m : List (List UInt8)) (i : Nat) : ∀ j, (entL m j)[i]? = if i < 24 then some (decide (i < j) && usedK m i) else none
 | 0 => by
  unfold entL
  rw [List.getElem?_replicate]
  simp
 | j + 1 => by
  have ih := entL_get m i j
  have hl := entL_len m j
  unfold entL
  by_cases e : j = i
  ·subst e
   rw [List.getElem?_set, if_pos rfl, hl]
   by_cases h : j < 24
   ·simp [h]
   ·simp [h]
  ·rw [List.getElem?_set_ne e, ih]
   have : decide (i < j + 1) = decide (i < j) := by
    rw [Bool.eq_iff_iff]; simp only [decide_eq_true_eq]; omega
   rw [this]
theorem entL_map (m : List (List UInt8)) : entL m 24 = (List.range 24).map (usedK m) := by
 apply List.ext_getElem?
 intro i
 rw [entL_get]
 rcases Nat.lt_or_ge i 24 with h | h
 ·rw [if_pos h, List.getElem?_map, List.getElem?_range h]; simp [h]
 ·rw [if_neg (by omega), List.getElem?_eq_none (by simp; omega)]
theorem blkL_map (m : List (List UInt8)) : cnt (blkL m 16) = cnt ((List.range 24).map fun i => usedB m (i + 1)) := by
 have h0 : (blkL m 16)[0]? = some false := by
  have key : ∀ j, (blkL m j)[0]? = some false := by
   intro j
   induction j with
   | zero => rfl
   | succ j ih =>
    show (if _ then _ else _)[0]? = _
    split
    ·obtain ⟨a, b, c, d, hB⟩ := bs_of m j
     rw [put6_of hB]
     have hs : ∀ (L : List Bool) (a : Nat), L[0]? = some false → (L.set a (decide (0 < a)))[0]? = some false := by
      intro L a h
      cases a with
      | zero =>
       have : 0 < L.length := by
        rcases Nat.lt_or_ge 0 L.length with h1 | h1
        ·exact h1
        ·rw [List.getElem?_eq_none h1] at h; cases h
       rw [List.getElem?_set_self this]; rfl
      | succ a => rw [List.getElem?_set_ne (by omega)]; exact h
     exact hs _ _ (hs _ _ (hs _ _ (hs _ _ ih)))
    ·exact ih
  exact key 16
 have hl := blkL_len m 16
 have e : blkL m 16 = false :: (List.range 24).map fun i => usedB m (i + 1) := by
  apply List.ext_getElem?
  intro i
  cases i with
  | zero => rw [h0]; rfl
  | succ i =>
   rw [List.getElem?_cons_succ]
   rcases Nat.lt_or_ge i 24 with h | h
   ·rw [blkB_get m (by omega), blkB_eq m (by omega), List.getElem?_map, List.getElem?_range h]; rfl
   ·rw [List.getElem?_eq_none (by omega), List.getElem?_eq_none (by simp; omega)]
 rw [e]
 simp [cnt]
def wstep (L : List (List UInt8)) (x : Wr) : List (List UInt8) := if 0 ≤ x.pos ∧ x.pos < L.length then L.set x.pos.toNat x.s else L
def withM (l : List (List UInt8)) (ws : List Wr) : List (List UInt8) := if 1 ≤ l.length ∧ l.length ≤ 65 then ws.foldl wstep l else []
theorem wstep_len (L : List (List UInt8)) (x : Wr) : (wstep L x).length = L.length := by unfold wstep; split <;> simp
theorem wstep_sec {L : List (List UInt8)} {x : Wr} (h : ∀ s ∈ L, s.length = 32) (hx : x.s.length = 32) : ∀ s ∈ wstep L x, s.length = 32 := by
 unfold wstep
 split
 ·intro s hs
  rcases List.mem_or_eq_of_mem_set hs with h1 | h1
  ·exact h s h1
  ·rw [h1]; exact hx
 ·exact h
theorem Wr.drop33 {x : Wr} (h : x.s.length = 32) : x.cells.drop 33 = [iw x.k, iw x.id, iw x.ep] := by
 have : (bys x.s).length = 32 := by simp [bys, h]
 simp only [Wr.cells, List.drop_succ_cons]
 rw [← this, List.drop_left]
theorem fold_sec : ∀ (ws : List Wr) (L : List (List UInt8)), (∀ x ∈ ws, x.s.length = 32) → (∀ s ∈ L, s.length = 32) → (∀ s ∈ ws.foldl wstep L, s.length = 32) ∧ (ws.foldl wstep L).length = L.length
 | [], L, _, h => ⟨h, rfl⟩
 | x :: ws, L, hw, h => by
  have := fold_sec ws (wstep L x) (fun y hy => hw y (List.mem_cons_of_mem _ hy)) (wstep_sec h (hw x (List.mem_cons_self ..)))
  rw [wstep_len] at this
  exact this
theorem fails_eq (d : Dsk) (o : Option (List V)) (L : Heap) : eval tbl noExt n_pbdisk_faults_fails [.ptr 1 0] (o :: some d.cells :: L) = some (.bool false, o :: some ({ d with next := IntKind.i64.wrap (d.next + 1) } : Dsk).cells :: L) := by
 have hc : d.cells = [.nilm, iw d.next, .sl 32 (d.safe.map bys), wv 36 (d.wait.map Wr.cells), wv 38 d.log, iw 0] := rfl
 have hc2 : ({ d with next := IntKind.i64.wrap (d.next + 1) } : Dsk).cells = [.nilm, iw (IntKind.i64.wrap (d.next + 1)), .sl 32 (d.safe.map bys), wv 36 (d.wait.map Wr.cells), wv 38 d.log, iw 0] := rfl
 rw [eval_M rfl rfl t_pbdisk_faults_fails rfl, hc, hc2]
 simp [c_pbdisk_faults_fails, mapOf, keyWell, keyOf, eqCells, lookOf, keyAt]
def Dsk.write (d : Dsk) (x : Wr) : Dsk :=
 if 0 ≤ x.pos ∧ x.pos < d.safe.length then ⟨IntKind.i64.wrap (d.next + 1), d.safe, d.wait ++ [⟨x.pos, x.s, x.k, x.id, 0⟩], d.log ++ [iw 1 :: ((⟨x.pos, x.s, x.k, x.id, 0⟩ : Wr).cells ++ [.sl 2 []])]⟩
 else { d with next := IntKind.i64.wrap (d.next + 1) }
theorem wv_app (k : Nat) (l : List (List V)) (r : List V) : wv k (l ++ [r]) = .own k (l ++ [r]) := by cases l <;> rfl
theorem note_eq (d : Dsk) (o : Option (List V)) (L : Heap) (r : List V) (hr : r.length = 38) (h1 : r.all V.plain = true) (h2 : r.map V.strip = r) (h3 : V.isUndef (.agg r) = false) (hl : d.log.length ≤ 2000) :
  eval tbl noExt n_pbdisk_Disk_note [.ptr 1 0, .agg r] (o :: some d.cells :: L) = some (iw 0, o :: some ({ d with log := d.log ++ [r] } : Dsk).cells :: L) := by
 have hc : d.cells = [.nilm, iw d.next, .sl 32 (d.safe.map bys), wv 36 (d.wait.map Wr.cells), wv 38 d.log, iw 0] := rfl
 have hc2 : ({ d with log := d.log ++ [r] } : Dsk).cells = [.nilm, iw d.next, .sl 32 (d.safe.map bys), wv 36 (d.wait.map Wr.cells), .own 38 (d.log ++ [r]), iw 0] := by unfold Dsk.cells; rw [wv_app]
 have g1 : 2 * (d.log.length + 1) * 96 ≤ 281474976710656 := by omega
 have g0 := fun x q => get0 (o :: some d.cells :: L) x q
 have q5 : r.take 38 = r := List.take_of_length_le (by omega)
 have q6 : ∀ a : List V, a.length = 38 → setMany a 0 r = r := fun a ha => setMany_self2 a r (by omega)
 rw [eval_M rfl rfl t_pbdisk_Disk_note rfl, hc2]
 rw [hc]
 cases hL : d.log with
 | nil =>
  simp [-List.all_eq_true, c_pbdisk_Disk_note, wv, gk0, gk, sk0, sk, hr, h1, h2, q5, q6]
 | cons y l =>
  rw [hL] at g1
  simp only [List.length_cons] at g1
  simp [-List.all_eq_true, c_pbdisk_Disk_note, wv, gk0, gk, sk0, sk, hr, h1, h2, q5, q6, g1]
theorem Write_eq (o : Option (List V)) (d : Dsk) (ok : d.ok) (x : Wr) (hx : x.s.length = 32) (hl : d.log.length ≤ 2000) :
  ∃ e, eval tbl noExt n_pbdisk_Disk_Write [.ptr 1 0, iw x.pos, .agg (bys x.s), .agg [iw x.k, iw x.id]] [o, some d.cells] = some (iw e, [o, some (d.write x).cells]) := by
 have hN := fun L : Heap => none_eq (o :: some d.cells :: L) d rfl ok
 have hF := fun L : Heap => fails_eq d o L
 obtain ⟨d1, hd1⟩ : ∃ d1 : Dsk, d1 = { d with next := IntKind.i64.wrap (d.next + 1) } := ⟨_, rfl⟩
 rw [← hd1] at hF
 have ok1 : d1.ok := by rw [hd1]; exact ⟨ok.low, ok.high, ok.sec, ok.wok, ok.wl⟩
 have hH := fun L : Heap => has_eq (o :: some d1.cells :: L) d1 rfl ok1 x.pos
 have es : d1.safe = d.safe := by rw [hd1]
 have q9 := h32 (bys_ok hx)
 have q10 : (bys x.s).length = 32 := by simp [bys, hx]
 have q11 := bys_strip x.s
 have q12 := bys_one x.s
 have q13 := fun n => bys_under n x.s
 have q14 : (bys x.s).take 32 = bys x.s := List.take_of_length_le (by omega)
 have q15 : (bys x.s).isEmpty = false := by cases h : bys x.s with
  | nil => rw [h] at q10; cases q10
  | cons => rfl
 by_cases hp : 0 ≤ x.pos ∧ x.pos < d.safe.length
 ·have hw : d.write x = ⟨IntKind.i64.wrap (d.next + 1), d.safe, d.wait ++ [⟨x.pos, x.s, x.k, x.id, 0⟩], d.log ++ [iw 1 :: ((⟨x.pos, x.s, x.k, x.id, 0⟩ : Wr).cells ++ [.sl 2 []])]⟩ := by unfold Dsk.write; rw [if_pos hp]
  have hd : (decide (0 ≤ x.pos) && decide (x.pos < d1.safe.length)) = true := by rw [es]; simp [hp]
  obtain ⟨y, hy⟩ : ∃ y : Wr, y = ⟨x.pos, x.s, x.k, x.id, 0⟩ := ⟨_, rfl⟩
  have hyl : y.s.length = 32 := by rw [hy]; exact hx
  have ey : y.cells = iw x.pos :: (bys x.s ++ [iw x.k, iw x.id, iw 0]) := by rw [hy]; rfl
  obtain ⟨d2, hd2⟩ : ∃ d2 : Dsk, d2 = { d1 with wait := d1.wait ++ [y] } := ⟨_, rfl⟩
  have y1 := Wr.len hyl
  have y2 := y.one
  have y3 := y.under
  have y4 := Wr.take hyl
  have y5 := y.strip
  have y6 := y.plain
  have hnote := fun L : Heap => note_eq d2 o L (iw 1 :: (y.cells ++ [.sl 2 []])) (by simp [y1]) (by simpa [V.plain] using y6) (by simp [y5]) rfl (by rw [hd2, hd1]; exact hl)
  have ed : ({ d2 with log := d2.log ++ [iw 1 :: (y.cells ++ [.sl 2 []])] } : Dsk) = d.write x := by rw [hw, hd2, hd1, ← hy]
  rw [ed] at hnote
  refine ⟨0, ?_⟩
  have hc1 : d1.cells = [.nilm, iw d1.next, .sl 32 (d1.safe.map bys), wv 36 (d1.wait.map Wr.cells), wv 38 d1.log, iw 0] := rfl
  have hc2 : d2.cells = [.nilm, iw d1.next, .sl 32 (d1.safe.map bys), .own 36 (d1.wait.map Wr.cells ++ [y.cells]), wv 38 d1.log, iw 0] := by
   rw [hd2]; unfold Dsk.cells
   rw [List.map_append, List.map_cons, List.map_nil, wv_app]
  have ov : overlay [.int .i64 0, .int .u8 0, .int .u8 0, .int .u8 0, .int .u8 0, .int .u8 0, .int .u8 0, .int .u8 0, .int .u8 0, .int .u8 0, .int .u8 0, .int .u8 0, .int .u8 0, .int .u8 0, .int .u8 0, .int .u8 0, .int .u8 0, .int .u8 0, .int .u8 0, .int .u8 0, .int .u8 0, .int .u8 0, .int .u8 0, .int .u8 0, .int .u8 0, .int .u8 0, .int .u8 0, .int .u8 0, .int .u8 0, .int .u8 0, .int .u8 0, .int .u8 0, .int .u8 0, .int .i64 0, .int .i64 0, .int .i64 0] [(0, [iw x.pos]), (1, bys x.s), (33, [iw x.k, iw x.id]), (35, [iw 0])] = y.cells := by
   have e1 := setMany_mid2 [iw x.pos] (List.replicate 32 (u8 0)) (bys x.s) [iw 0, iw 0, iw 0] (by simp [q10])
   have e2 := setMany_mid2 (iw x.pos :: bys x.s) [iw 0, iw 0] [iw x.k, iw x.id] [iw 0] rfl
   have e3 := setMany_mid2 (iw x.pos :: (bys x.s ++ [iw x.k, iw x.id])) [iw 0] [iw 0] [] rfl
   simp only [List.length_cons, List.length_append, List.length_nil, q10, List.cons_append, List.nil_append, List.append_assoc, List.append_nil] at e1 e2 e3
   show setMany (setMany (setMany (iw x.pos :: (List.replicate 32 (u8 0) ++ [iw 0, iw 0, iw 0])) 1 (bys x.s)) 33 [iw x.k, iw x.id]) 35 [iw 0] = _
   rw [e1, e2, e3, ey]
  have ov3 : ∀ a : List V, a.length = 36 → overlay a [(0, y.cells)] = y.cells := fun a ha => by
   simp only [overlay]; exact setMany_self2 a _ (by omega)
  have q16 : ∀ a : List V, a.length = 36 → setMany a 0 y.cells = y.cells := fun a ha => setMany_self2 a _ (by omega)
  have ov2 : overlay [.int .i64 0, .int .i64 0, .int .u8 0, .int .u8 0, .int .u8 0, .int .u8 0, .int .u8 0, .int .u8 0, .int .u8 0, .int .u8 0, .int .u8 0, .int .u8 0, .int .u8 0, .int .u8 0, .int .u8 0, .int .u8 0, .int .u8 0, .int .u8 0, .int .u8 0, .int .u8 0, .int .u8 0, .int .u8 0, .int .u8 0, .int .u8 0, .int .u8 0, .int .u8 0, .int .u8 0, .int .u8 0, .int .u8 0, .int .u8 0, .int .u8 0, .int .u8 0, .int .u8 0, .int .u8 0, .int .i64 0, .int .i64 0, .int .i64 0, .sl 2 []] [(0, [iw 1]), (1, y.cells)] = iw 1 :: (y.cells ++ [.sl 2 []]) := by
   have e1 := setMany_mid2 [iw 1] (iw 0 :: (List.replicate 32 (u8 0) ++ [iw 0, iw 0, iw 0])) y.cells [.sl 2 []] (by simp [y1])
   simp only [List.length_cons, List.length_nil, List.cons_append, List.nil_append, List.append_assoc] at e1
   exact e1
  rw [eval_M rfl rfl t_pbdisk_Disk_Write rfl]
  obtain ⟨g, hg⟩ : ∃ g, g = d1.wait.map Wr.cells := ⟨_, rfl⟩
  have gl : g.length ≤ 1000 := by rw [hg, List.length_map, hd1]; exact ok.wl
  rw [← hg] at hc1 hc2
  obtain ⟨lg, hlg⟩ : ∃ lg, lg = wv 38 d1.log := ⟨_, rfl⟩
  have hlg2 := wv_strip 38 d1.log
  rw [← hlg] at hc1 hc2 hlg2
  simp only [V.strip] at hlg2
  dsimp only at ov ov2
  have hws := wv_strip 36 g
  simp only [V.strip] at hws
  cases hL : g with
  | nil =>
   rw [hL] at hc1 hc2
   simp only [wv, List.nil_append] at hc1 hc2
   rw [hc2] at hnote
   rw [hc1] at hF hH
   simp [-List.all_eq_true, -overlay, c_pbdisk_Disk_Write, hN, hF, hH, hd, q9, q10, q11, q12, q13, q14, ov, ov2, ov3, y1, y2, y3, y4, y5, y6, q16, hnote]
  | cons z g' =>
   rw [hL] at hc1 hc2 gl
   simp only [wv, List.cons_append, List.length_cons] at hc1 hc2 gl
   rw [hc2] at hnote
   rw [hc1] at hF hH
   have g1 : 2 * (g'.length + 1 + 1) * 64 ≤ 281474976710656 := by omega
   simp [-List.all_eq_true, -overlay, c_pbdisk_Disk_Write, hN, hF, hH, hd, q9, q10, q11, q12, q13, q14, ov, ov2, ov3, y1, y2, y3, y4, y5, y6, q16, hnote, g1]
 ·have hw : d.write x = d1 := by unfold Dsk.write; rw [if_neg hp, hd1]
  have hd : (decide (0 ≤ x.pos) && decide (x.pos < d1.safe.length)) = false := by
   rw [es, Bool.eq_false_iff]; intro h2; simp only [Bool.and_eq_true, decide_eq_true_eq] at h2; exact hp h2
  refine ⟨1, ?_⟩
  rw [hw, eval_M rfl rfl t_pbdisk_Disk_Write rfl]
  simp [-List.all_eq_true, c_pbdisk_Disk_Write, hN, hF, hH, hd]
theorem cloneS_eq (l : List (List UInt8)) (h0 : l ≠ []) (hl : l.length ≤ 1000) : ∀ H, eval tbl noExt n_slices_Clone_api_Sector_api_Sector [imgV l] H = some (.own 32 (l.map bys), H) := by
 intro H
 have h1 : ¬ l.length = 0 := fun h => h0 (List.eq_nil_of_length_eq_zero h)
 have g4 : 2 * l.length * 32 ≤ 281474976710656 := by omega
 have g5 : ((l.map bys).all fun r => r.all V.plain) = true := by
  rw [List.all_eq_true]
  intro r hr
  obtain ⟨s, _, rfl⟩ := List.mem_map.1 hr
  exact bys_plain s
 rw [eval_M rfl rfl t_slices_Clone_api_Sector_api_Sector rfl]
 simp [-List.all_eq_true, -List.all_map, c_slices_Clone_api_Sector_api_Sector, h0, h1, g4, g5]
def dsk0 (l : List (List UInt8)) : Dsk := ⟨0, l, [], []⟩
theorem New_ok (n : Nat) (h1 : 1 ≤ n) (h2 : n ≤ 65) : ∃ o, eval tbl noExt n_bdisk_New [iw n] [] = some (.tup [.ptr 0 0, iw 0], [some o]) := by
 have g1 : ¬ (n : Int) < 1 := by omega
 have g2 : ¬ (65 : Int) < n := by omega
 have g1' : ¬ n = 0 := by omega
 have g2' : ¬ 65 < n := by omega
 have g3 : n ≤ 2 ^ 24 := by omega
 have g4 : (n : Int) ≤ 16777216 := by omega
 have g5 : n ≤ 16777216 := by omega
 rw [eval_M rfl rfl t_bdisk_New rfl]
 simp [c_bdisk_New, g1, g2, g1', g2', g4, g5]
theorem New_bad (n : Nat) (h : n < 1 ∨ 65 < n) : eval tbl noExt n_bdisk_New [iw n] [] = some (.tup [.nilp, iw 1], []) := by
 rw [eval_M rfl rfl t_bdisk_New rfl]
 rcases h with h | h
 ·obtain rfl : n = 0 := by omega
  simp [c_bdisk_New]
 ·have g1 : ¬ n = 0 := by omega
  have g2 : (65 : Int) < n := by omega
  have g3 : ¬ (n : Int) < 1 := by omega
  simp [c_bdisk_New, h, g1, g2, g3]
theorem From_ok (l : List (List UInt8)) (h1 : 1 ≤ l.length) (h2 : l.length ≤ 65) : ∃ o, eval tbl noExt n_bdisk_From [imgV l] [] = some (.tup [.ptr 1 0, iw 0], [some o, some (dsk0 l).cells]) := by
 obtain ⟨o, hN⟩ := New_ok l.length h1 h2
 have h0 : l ≠ [] := fun h => by rw [h] at h1; simp at h1
 have hC := cloneS_eq l h0 (by omega)
 have hc : (dsk0 l).cells = [.nilm, iw 0, .sl 32 (l.map bys), .nils 36, .nils 38, iw 0] := rfl
 refine ⟨o, ?_⟩
 rw [eval_M rfl rfl t_bdisk_From rfl, hc]
 simp [c_bdisk_From, hN, hC]
theorem From_bad (l : List (List UInt8)) (h : l.length < 1 ∨ 65 < l.length) : eval tbl noExt n_bdisk_From [imgV l] [] = some (.tup [.nilp, iw 1], []) := by
 have hN := New_bad l.length h
 rw [eval_M rfl rfl t_bdisk_From rfl]
 simp [c_bdisk_From, hN]
def dwrite (d : Dsk) (ws : List Wr) : Dsk := ws.foldl Dsk.write d
structure Dsk.fit (d : Dsk) (n : Nat) : Prop where
 ok : d.safe.length = n ∧ 1 ≤ n ∧ n ≤ 65
 sec : ∀ s ∈ d.safe, s.length = 32
 wok : ∀ x ∈ d.wait, x.s.length = 32
theorem write_fit {d : Dsk} {n : Nat} (h : d.fit n) {x : Wr} (hx : x.s.length = 32) : (d.write x).fit n ∧ (d.write x).wait.length ≤ d.wait.length + 1 ∧ (d.write x).log.length ≤ d.log.length + 1 := by
 unfold Dsk.write
 split
 ·refine ⟨⟨h.ok, h.sec, fun y hy => ?_⟩, by simp, by simp⟩
  rcases List.mem_append.1 hy with hy | hy
  ·exact h.wok y hy
  ·simp only [List.mem_singleton] at hy; rw [hy]; exact hx
 ·exact ⟨⟨h.ok, h.sec, h.wok⟩, by simp, by simp⟩
theorem disk_loop {ws : List Wr} (hw : ∀ x ∈ ws, x.s.length = 32) (hwl : ws.length ≤ 40) (n : Nat) (o : Option (List V)) (k : List Item) (Q : Option (V × Heap) → Prop)
  (Z : Dsk) (he : ∀ φ, Fr.get φ 5 = .ptr 1 0 → Q (M (eval tbl noExt) k φ [o, some Z.cells])) :
  ∀ (r : List Wr) (j : Nat) (d : Dsk) (φ : Fr), ws.drop j = r → d.fit n → d.wait.length ≤ j → d.log.length ≤ j → Z = dwrite d r → Fr.get φ 1 = .sl 36 (ws.map Wr.cells) → Fr.get φ 5 = .ptr 1 0 → Fr.get φ 7 = iw j →
   Q (M (eval tbl noExt) (.code l_flotsamlaw09_Disk_0 :: .blk 0 :: k) φ [o, some d.cells]) := by
 intro r
 induction r with
 | nil =>
  intro j d φ hd hf hj1 hj2 hZ h1 h5 h7
  have hj : ws.length ≤ j := by rw [← Nat.sub_eq_zero_iff_le, ← List.length_drop, hd]; rfl
  have hlt : ¬ ((j : Int) < ws.length) := by omega
  have hlt' : ¬ (j < ws.length) := by omega
  rw [l_flotsamlaw09_Disk_0, M_loop, ← l_flotsamlaw09_Disk_0]
  simp [b_flotsamlaw09_Disk_0, h1, h5, h7, hlt']
  rw [← show Z = d from hZ]
  exact he _ (by simp [h5])
 | cons x r ih =>
  intro j d φ hd hf hj1 hj2 hZ h1 h5 h7
  have hj : j < ws.length := by
   have : (ws.drop j).length = r.length + 1 := by rw [hd]; rfl
   rw [List.length_drop] at this; omega
  have hlt : (j : Int) < ws.length := by omega
  have hLx : ws[j]? = some x := by rw [← List.head?_drop, hd]; rfl
  have hd1 : ws.drop (j + 1) = r := by rw [← List.tail_drop, hd]; rfl
  have hx := hw x (List.mem_of_getElem? hLx)
  have hg : ∀ h, ws[j]'h = x := fun h => by rw [List.getElem?_eq_getElem h] at hLx; exact Option.some.inj hLx
  have hwj : IntKind.i64.wrap ((j : Int) + 1) = ((j + 1 : Nat) : Int) := by rw [w64 (by omega) (by omega)]; rfl
  have g0 : ∀ h, x.cells[0]'h = iw x.pos := fun _ => rfl
  have q1 := Wr.len hx
  have q8 : List.take 32 (List.map V.strip x.cells).tail = bys x.s := by rw [Wr.strip, ← Wr.mid hx]; rfl
  have q9 : List.take 2 (List.drop 33 (List.map V.strip x.cells)) = [iw x.k, iw x.id] := by rw [Wr.strip, Wr.drop33 hx]; rfl
  obtain ⟨e, hW⟩ := Write_eq o d ⟨by rw [hf.ok.1]; exact hf.ok.2.1, by rw [hf.ok.1]; exact hf.ok.2.2, hf.sec, hf.wok, by omega⟩ x hx (by omega)
  obtain ⟨f1, f2, f3⟩ := write_fit hf hx
  rw [l_flotsamlaw09_Disk_0, M_loop, ← l_flotsamlaw09_Disk_0]
  simp [b_flotsamlaw09_Disk_0, h1, h5, h7, hlt, hj, hg, hwj, g0, q1, q8, q9, hW]
  refine ih (j + 1) _ _ hd1 f1 (by omega) (by omega) hZ ?_ ?_ ?_
  all_goals simp [h1, h5]
theorem disk_loop_nil {ws : List Wr} (hw : ∀ x ∈ ws, x.s.length = 32) (hwl : ws.length ≤ 40) (k : List Item) (Q : Option (V × Heap) → Prop)
  (he : ∀ φ A, Fr.get φ 5 = .nilp → Q (M (eval tbl noExt) k φ A)) :
  ∀ (r : List Wr) (j : Nat) (φ : Fr) (A : Heap), ws.drop j = r → Fr.get φ 1 = .sl 36 (ws.map Wr.cells) → Fr.get φ 5 = .nilp → Fr.get φ 7 = iw j →
   Q (M (eval tbl noExt) (.code l_flotsamlaw09_Disk_0 :: .blk 0 :: k) φ A) := by
 intro r
 induction r with
 | nil =>
  intro j φ A hd h1 h5 h7
  have hj : ws.length ≤ j := by rw [← Nat.sub_eq_zero_iff_le, ← List.length_drop, hd]; rfl
  have hlt' : ¬ (j < ws.length) := by omega
  rw [l_flotsamlaw09_Disk_0, M_loop, ← l_flotsamlaw09_Disk_0]
  simp [b_flotsamlaw09_Disk_0, h1, h5, h7, hlt']
  exact he _ _ (by simp [h5])
 | cons x r ih =>
  intro j φ A hd h1 h5 h7
  have hj : j < ws.length := by
   have : (ws.drop j).length = r.length + 1 := by rw [hd]; rfl
   rw [List.length_drop] at this; omega
  have hlt : (j : Int) < ws.length := by omega
  have hLx : ws[j]? = some x := by rw [← List.head?_drop, hd]; rfl
  have hd1 : ws.drop (j + 1) = r := by rw [← List.tail_drop, hd]; rfl
  have hx := hw x (List.mem_of_getElem? hLx)
  have hg : ∀ h, ws[j]'h = x := fun h => by rw [List.getElem?_eq_getElem h] at hLx; exact Option.some.inj hLx
  have hwj : IntKind.i64.wrap ((j : Int) + 1) = ((j + 1 : Nat) : Int) := by rw [w64 (by omega) (by omega)]; rfl
  have g0 : ∀ h, x.cells[0]'h = iw x.pos := fun _ => rfl
  have q1 := Wr.len hx
  have q8 : List.take 32 (List.map V.strip x.cells).tail = bys x.s := by rw [Wr.strip, ← Wr.mid hx]; rfl
  have q9 : List.take 2 (List.drop 33 (List.map V.strip x.cells)) = [iw x.k, iw x.id] := by rw [Wr.strip, Wr.drop33 hx]; rfl
  have hN := fun L => none_nil (A ++ L)
  have hW : eval tbl noExt n_pbdisk_Disk_Write [.nilp, iw x.pos, .agg (bys x.s), .agg [iw x.k, iw x.id]] A = some (iw 1, A) := by
   have q15 : V.isUndef (.agg (bys x.s)) = false := rfl
   rw [eval_M rfl rfl t_pbdisk_Disk_Write rfl]
   simp [-List.all_eq_true, c_pbdisk_Disk_Write, hN, tk0]
  rw [l_flotsamlaw09_Disk_0, M_loop, ← l_flotsamlaw09_Disk_0]
  simp [b_flotsamlaw09_Disk_0, h1, h5, h7, hlt, hj, hg, hwj, g0, q1, q8, q9, hW]
  refine ih (j + 1) _ _ hd1 ?_ ?_ ?_
  all_goals simp [h1, h5]
theorem at_write {d : Dsk} {x : Wr} {L : List (List UInt8)} (hd : L.length = d.safe.length) (h : ∀ n : Nat, d.at n = L.getD n zero32) : ∀ n : Nat, (d.write x).at n = (wstep L x).getD n zero32 := by
 intro n
 by_cases hp : 0 ≤ x.pos ∧ x.pos < d.safe.length
 ·have e1 : d.write x = ⟨IntKind.i64.wrap (d.next + 1), d.safe, d.wait ++ [⟨x.pos, x.s, x.k, x.id, 0⟩], d.log ++ [iw 1 :: ((⟨x.pos, x.s, x.k, x.id, 0⟩ : Wr).cells ++ [.sl 2 []])]⟩ := by unfold Dsk.write; rw [if_pos hp]
  have e2 : wstep L x = L.set x.pos.toNat x.s := by unfold wstep; rw [if_pos (by rw [hd]; exact hp)]
  have h1 := h n
  rw [e1, e2]
  unfold Dsk.at at h1 ⊢
  by_cases hn : 0 ≤ (n : Int) ∧ (n : Int) < d.safe.length
  ·rw [if_pos hn] at h1 ⊢
   rw [lastAt_snoc]
   by_cases e : x.pos = n
   ·rw [if_pos e]
    have e3 : x.pos.toNat = n := by omega
    dsimp only
    rw [e3, List.getD_eq_getElem?_getD, List.getElem?_set_self (by omega)]
    rfl
   ·rw [if_neg e, h1, List.getD_eq_getElem?_getD, List.getD_eq_getElem?_getD, List.getElem?_set_ne (by omega)]
  ·rw [if_neg hn]
   rw [List.getD_eq_getElem?_getD, List.getElem?_eq_none (by simp; omega)]
   rfl
 ·have e1 : d.write x = { d with next := IntKind.i64.wrap (d.next + 1) } := by unfold Dsk.write; rw [if_neg hp]
  have e2 : wstep L x = L := by unfold wstep; rw [if_neg (by rw [hd]; exact hp)]
  rw [e1, e2]
  exact h n
theorem at_fold : ∀ (ws : List Wr) (d : Dsk) (L : List (List UInt8)) (n : Nat), d.fit n → (∀ x ∈ ws, x.s.length = 32) → L.length = n → (∀ n : Nat, d.at n = L.getD n zero32) →
  (dwrite d ws).fit n ∧ (∀ n : Nat, (dwrite d ws).at n = (ws.foldl wstep L).getD n zero32) ∧ (dwrite d ws).wait.length ≤ d.wait.length + ws.length
 | [], d, L, n, hf, _, _, h => ⟨hf, h, by simp [dwrite]⟩
 | x :: ws, d, L, n, hf, hw, hL, h => by
  have hx := hw x (List.mem_cons_self ..)
  obtain ⟨f1, f2, _⟩ := write_fit hf hx
  have := at_fold ws (d.write x) (wstep L x) n f1 (fun y hy => hw y (List.mem_cons_of_mem _ hy)) (by rw [wstep_len]; exact hL) (at_write (by rw [hL, hf.ok.1]) h)
  obtain ⟨a, b, c⟩ := this
  exact ⟨a, b, by simp only [List.length_cons]; exact Nat.le_trans c (by omega)⟩
theorem Disk_eq {l : List (List UInt8)} {ws : List Wr} (hl : ∀ s ∈ l, s.length = 32) (hw : ∀ x ∈ ws, x.s.length = 32) (hwl : ws.length ≤ 40) :
  ∃ v K, eval tbl noExt n_flotsamlaw09_Disk [imgV l, .sl 36 (ws.map Wr.cells)] [] = some (v, K) ∧ Has K v (withM l ws) := by
 by_cases h : 1 ≤ l.length ∧ l.length ≤ 65
 ·obtain ⟨o, hF⟩ := From_ok l h.1 h.2
  have e : withM l ws = ws.foldl wstep l := by unfold withM; rw [if_pos h]
  have fit0 : (dsk0 l).fit l.length := ⟨⟨rfl, h.1, h.2⟩, hl, fun x hx => by cases hx⟩
  have at0 : ∀ n : Nat, (dsk0 l).at n = l.getD n zero32 := by
   intro n
   unfold Dsk.at
   by_cases hn : 0 ≤ (n : Int) ∧ (n : Int) < (dsk0 l).safe.length
   ·rw [if_pos hn]; rfl
   ·have hn2 : l.length ≤ n := by have : (dsk0 l).safe.length = l.length := rfl; omega
    rw [if_neg hn, List.getD_eq_getElem?_getD, List.getElem?_eq_none hn2]; rfl
  obtain ⟨f1, f2, f3⟩ := at_fold ws (dsk0 l) l l.length fit0 hw rfl at0
  refine ⟨.ptr 1 0, [some o, some (dwrite (dsk0 l) ws).cells], ?_, ?_⟩
  ·rw [eval_M rfl rfl t_flotsamlaw09_Disk rfl]
   simp [c_flotsamlaw09_Disk, hF]
   refine disk_loop hw hwl l.length (some o) _ (fun x => x = some (.ptr 1 0, [some o, some (dwrite (dsk0 l) ws).cells])) (dwrite (dsk0 l) ws) ?_ ws 0 (dsk0 l) _ rfl fit0 (Nat.le_refl _) (Nat.le_refl _) rfl ?_ ?_ ?_
   ·intro φ h5
    simp [r_flotsamlaw09_Disk_0, h5]
   all_goals simp
  ·obtain ⟨fs, fl⟩ := fold_sec ws l hw hl
   refine ⟨by rw [e]; exact fs, by rw [e, fl]; exact h.2, .inr ⟨dwrite (dsk0 l) ws, rfl, rfl, ⟨by rw [f1.ok.1]; exact h.1, by rw [f1.ok.1]; exact h.2, f1.sec, f1.wok, ?_⟩, by rw [e]; exact f2⟩⟩
   have : (dsk0 l).wait.length = 0 := rfl
   omega
 ·have hF := From_bad l (by omega)
  have e : withM l ws = [] := by unfold withM; rw [if_neg h]
  refine ⟨.nilp, [], ?_, ?_⟩
  ·rw [eval_M rfl rfl t_flotsamlaw09_Disk rfl]
   simp [c_flotsamlaw09_Disk, hF]
   refine disk_loop_nil hw hwl _ (fun x => x = some (.nilp, [])) ?_ ws 0 _ _ rfl ?_ ?_ ?_
   ·intro φ A h5
    simp [r_flotsamlaw09_Disk_0, h5]
   all_goals simp
  ·rw [e]
   exact ⟨fun s hs => (by cases hs), by simp, .inl ⟨rfl, rfl⟩⟩
theorem ints_loop (L : List Nat) (hL : L.length ≤ 1000) (H : Heap) (k : List Item) (Q : Option (V × Heap) → Prop) (he : ∀ φ, Q (M (eval tbl noExt) k φ H)) :
  ∀ (r : Nat) (j : Nat) (φ : Fr), j + r = L.length → Fr.get φ 0 = .sl 1 (nr L) → Fr.get φ 1 = .sl 1 (nr L) → Fr.get φ 5 = iw j → Q (M (eval tbl noExt) (.code l_flotsamlaw04_Ints_0 :: .blk 0 :: k) φ H) := by
 intro r
 induction r with
 | zero =>
  intro j φ hj h0 h1 h5
  have hlt' : ¬ (j < L.length) := by omega
  rw [l_flotsamlaw04_Ints_0, M_loop, ← l_flotsamlaw04_Ints_0]
  simp [b_flotsamlaw04_Ints_0, h0, h1, h5, hlt']
  exact he _
 | succ r ih =>
  intro j φ hj h0 h1 h5
  have hlt' : j < L.length := by omega
  have hlt : (j : Int) < L.length := by omega
  have hw : IntKind.i64.wrap ((j : Int) + 1) = ((j + 1 : Nat) : Int) := by rw [w64 (by omega) (by omega)]; rfl
  rw [l_flotsamlaw04_Ints_0, M_loop, ← l_flotsamlaw04_Ints_0]
  simp [b_flotsamlaw04_Ints_0, h0, h1, h5, hlt, hlt', hw]
  refine ih (j + 1) _ (by omega) ?_ ?_ ?_
  all_goals simp [h0, h1]
theorem Ints_same (L : List Nat) (hL : L.length ≤ 1000) (H : Heap) : eval tbl noExt n_flotsamlaw04_Ints [.sl 1 (nr L), .sl 1 (nr L)] H = some (.bool true, H) := by
 rw [eval_M rfl rfl t_flotsamlaw04_Ints rfl]
 simp [c_flotsamlaw04_Ints]
 refine ints_loop L hL H _ (fun x => x = some (.bool true, H)) ?_ L.length 0 _ (by omega) ?_ ?_ ?_
 ·intro φ
  simp [r_flotsamlaw04_Ints_0]
 all_goals simp
theorem knows10 : eval tbl noExt n_flotsamlaw10_knows [] [] = some (.bool true, []) := (eval_iff _ _ _ _ _ _).2 ⟨200, by kernel_rfl⟩
abbrev TH (K : Heap) (n : Int) (b : Bool) (v : V) (st pend : Nat) (A : Heap) : Heap :=
 K ++ (some [iw n] :: some [.bool b] :: some [v] :: some [.lrec st pend q_look_Taken_0 [9, 10] [3, 4] [.ptr K.length 0, .ptr (K.length + 1) 0]] :: A)
theorem tyield (K : Heap) (n : Int) (v : V) (x : En) (A : Heap) (k : Int) :
  eval tbl noExt (yNo (K.length + 3)) [iw k, .agg x.cells] (TH K n false v 0 0 A) = some (.bool (decide (x.target ≠ n)), if x.target = n then TH K n true v 2 1 A else TH K n false v 0 0 A) := by
 have hrec : recAt (TH K n false v 0 0 A) (K.length + 3) = some (0, 0, q_look_Taken_0, [9, 10], [3, 4], [.ptr K.length 0, .ptr (K.length + 1) 0]) := by simp [recAt, TH, gk]
 have hc : x.cells = [.bool x.used, iw x.parent, .str x.name, iw x.target] := rfl
 have gA : ∀ (p q r s t : Option (List V)), (K ++ (p :: q :: r :: s :: (A ++ [t])))[K.length + (A.length + 4)]? = some t := fun p q r s t => by
  rw [gk]; simp
 have sA : ∀ (p q r s t u : Option (List V)), (K ++ (p :: q :: r :: s :: (A ++ [t]))).set (K.length + (A.length + 4)) u = K ++ (p :: q :: r :: s :: (A ++ [u])) := fun p q r s t u => by
  rw [sk]; simp
 rw [eval_Y hrec u_look_Taken_0 rfl]
 by_cases h : x.target = n
 ·rw [if_pos h]
  simp [a_look_Taken_0, y_look_Taken_0, recAt, TH, gk, gk0, sk, sk0, tkj, gA, sA, hc, h, endRound, pendOf, Nat.add_assoc]
 ·rw [if_neg h]
  simp [a_look_Taken_0, y_look_Taken_0, recAt, TH, gk, gk0, sk, sk0, tkj, gA, sA, hc, h, endRound, pendOf, Nat.add_assoc]
theorem used_loop2 {K : Heap} {v : V} {m : List (List UInt8)} (h : Has K v m) (n : Int) (k : List Item) (Q : Option (V × Heap) → Prop)
  (he : ∀ φ A, (List.range 24).any (hit m n) = false → Q (M (eval tbl noExt) k φ (TH K n false v 0 0 A))) (hr : ∀ φ A, (List.range 24).any (hit m n) = true → Q (retK (.blk 0 :: k) φ (TH K n true v 2 1 A))) :
  ∀ (r j : Nat) (φ : Fr) (A : Heap), j + r = 24 → (List.range j).any (hit m n) = false → Fr.get φ 0 = .yld (K.length + 3) → Fr.get φ 1 = .ptr (K.length + 2) 0 → Fr.get φ 5 = iw j → Q (M (eval tbl noExt) (.code l_look_used_1_0 :: .blk 0 :: k) φ (TH K n false v 0 0 A)) := by
 have h2 := h.two
 intro r
 induction r with
 | zero =>
  intro j φ A hj hn h0 h1 h5
  obtain rfl : j = 24 := by omega
  rw [l_look_used_1_0, M_loop, ← l_look_used_1_0]
  simp [b_look_used_1_0, h0, h1, h5]
  exact he _ _ hn
 | succ r ih =>
  intro j φ A hj hn h0 h1 h5
  have hlt : (j : Int) < 24 := by omega
  have hlt' : j < 24 := by omega
  have hE := fun L => lookEntry_eq (h.more L) j hlt'
  have hw : IntKind.i64.wrap ((j : Int) + 1) = ((j + 1 : Nat) : Int) := by rw [w64 (by omega) (by omega)]; rfl
  have hc : (ent m j).cells = [.bool (ent m j).used, iw (ent m j).parent, .str (ent m j).name, iw (ent m j).target] := rfl
  have hnext : (List.range (j + 1)).any (hit m n) = hit m n j := by rw [List.range_succ, List.any_append, hn]; simp
  have gA : ∀ (p q r s t : Option (List V)), (K ++ (p :: q :: r :: s :: (A ++ [t])))[K.length + (A.length + 4)]? = some t := fun p q r s t => by
   rw [gk]; simp
  have sA : ∀ (p q r s t u : Option (List V)), (K ++ (p :: q :: r :: s :: (A ++ [t]))).set (K.length + (A.length + 4)) u = K ++ (p :: q :: r :: s :: (A ++ [u])) := fun p q r s t u => by
   rw [sk]; simp
  have hY := fun A' : Heap => tyield K n v (ent m j) A' j
  rw [l_look_used_1_0, M_loop, ← l_look_used_1_0]
  cases hu : (ent m j).used with
  | false =>
   have hh : hit m n j = false := by unfold hit; rw [hu]; rfl
   rcases h2 with rfl | ⟨rfl, hp⟩ <;>
   ·simp [b_look_used_1_0, h0, h1, h5, hlt, hlt', hE, hc, hw, hu, gk, gk0, sk, sk0, gA, sA, Nat.add_assoc]
    refine ih (j + 1) _ _ (by omega) (hnext.trans hh) ?_ ?_ ?_
    all_goals simp [h0, h1]
  | true =>
   by_cases ht : (ent m j).target = n
   ·have hh : hit m n j = true := by unfold hit; rw [hu, decide_eq_true ht]; rfl
    have hall : (List.range 24).any (hit m n) = true := List.any_eq_true.2 ⟨j, List.mem_range.2 (by omega), hh⟩
    have hd : decide ((ent m j).target ≠ n) = false := by simp [ht]
    simp only [hd, if_pos ht, hc, hu] at hY
    have hr2 := fun φ A => hr φ A hall
    simp only [retK_blk] at hr2
    rcases h2 with rfl | ⟨rfl, hp⟩ <;>
    ·simp [b_look_used_1_0, h0, h1, h5, hlt, hlt', hE, hc, hw, hu, ht, gk, gk0, sk, sk0, gA, sA, Nat.add_assoc]
     simp [TH, ht] at hY
     simp [hY]
     exact hr2 _ _
   ·have hh : hit m n j = false := by unfold hit; rw [hu, decide_eq_false ht]; rfl
    have hd : decide ((ent m j).target ≠ n) = true := by simp [ht]
    simp only [hd, if_neg ht, hc, hu] at hY
    rcases h2 with rfl | ⟨rfl, hp⟩ <;>
    ·simp [TH] at hY
     simp [b_look_used_1_0, h0, h1, h5, hlt, hlt', hE, hc, hw, hu, ht, gk, gk0, sk, sk0, gA, sA, Nat.add_assoc, hY]
     refine ih (j + 1) _ _ (by omega) (hnext.trans hh) ?_ ?_ ?_
     all_goals simp [h0, h1]
theorem used1_eq {K : Heap} {v : V} {m : List (List UInt8)} (h : Has K v m) (n : Int) :
  eval tbl noExt n_look_used_1 [.yld (K.length + 3), .ptr (K.length + 2) 0] (TH K n false v 0 0 []) = some (.tup [], if (List.range 24).any (hit m n) = true then TH K n true v 2 1 [] else TH K n false v 0 0 []) := by
 obtain ⟨b, hb⟩ : ∃ b, b = (List.range 24).any (hit m n) := ⟨_, rfl⟩
 rw [← hb]
 obtain ⟨Z, hZ⟩ : ∃ Z, Z = if b = true then TH K n true v 2 1 [] else TH K n false v 0 0 [] := ⟨_, rfl⟩
 rw [← hZ]
 rw [eval_M rfl rfl t_look_used_1 rfl]
 simp [c_look_used_1]
 refine used_loop2 h n _ (fun x => x = some (.tup [], Z)) ?_ ?_ 24 0 _ [] rfl rfl ?_ ?_ ?_
 ·intro φ A hh
  rw [hZ, hb, hh, if_neg (by simp)]
  simp [TH, tkj]
 ·intro φ A hh
  rw [hZ, hb, hh, if_pos rfl]
  simp [TH, tkj]
 all_goals simp
theorem Taken_eq {K : Heap} {v : V} {m : List (List UInt8)} (h : Has K v m) (n : Int) : eval tbl noExt n_look_Taken [v, iw n] K = some (.bool (taken m n), K) := by
 have hU := used1_eq h n
 have h2 := h.two
 unfold taken
 cases hh : (List.range 24).any (hit m n) with
 | true =>
  rw [hh, if_pos rfl] at hU
  have hB : ∀ L : Heap, eval tbl noExt n_look_used [v] (K ++ L) = some (.fn (.func n_look_used_1) [] [.ptr (K.length + L.length) 0], K ++ (L ++ [some [v]])) := fun L => by
   rw [eval_M rfl rfl t_look_used rfl]
   rcases h2 with rfl | ⟨rfl, hp⟩ <;> simp [c_look_used]
  rw [eval_M rfl rfl t_look_Taken rfl]
  rcases h2 with rfl | ⟨rfl, hp⟩ <;>
  simp [c_look_Taken, hB, hU, gk, gk0, sk, sk0, tk0, tkj, recAt, Nat.add_assoc]
 | false =>
  rw [hh, if_neg (by simp)] at hU
  have hB : ∀ L : Heap, eval tbl noExt n_look_used [v] (K ++ L) = some (.fn (.func n_look_used_1) [] [.ptr (K.length + L.length) 0], K ++ (L ++ [some [v]])) := fun L => by
   rw [eval_M rfl rfl t_look_used rfl]
   rcases h2 with rfl | ⟨rfl, hp⟩ <;> simp [c_look_used]
  rw [eval_M rfl rfl t_look_Taken rfl]
  rcases h2 with rfl | ⟨rfl, hp⟩ <;>
  simp [c_look_Taken, hB, hU, gk, gk0, sk, sk0, tk0, tkj, recAt, Nat.add_assoc, r_look_Taken_0]
def frees (p : Nat → Bool) (i r : Nat) : List Nat := (List.range' i r).filter fun j => !p j
theorem frees_succ (p : Nat → Bool) (i r : Nat) : frees p i (r + 1) = if p i = true then frees p (i + 1) r else i :: frees p (i + 1) r := by
 unfold frees
 rw [List.range'_succ, List.filter_cons]
 by_cases h : p i = true
 ·simp [h]
 ·simp [h]
theorem pick_frees (p : Nat → Bool) (n : Int) : ∀ (r i c : Nat), pick p n r i c = (frees p i r).take (n - c).toNat
 | 0, i, c => by simp [pick, frees]
 | r + 1, i, c => by
  rw [frees_succ]
  unfold pick
  by_cases hc : (c : Int) < n
  ·rw [if_pos hc]
   by_cases h : p i = true
   ·rw [if_pos h, if_pos h]
    exact pick_frees p n r (i + 1) c
   ·rw [if_neg h, if_neg h, pick_frees p n r (i + 1) (c + 1)]
    obtain ⟨q, hq⟩ : ∃ q : Nat, n - c = (q : Int) + 1 := ⟨(n - c - 1).toNat, by omega⟩
    have e1 : (n - c).toNat = q + 1 := by omega
    have e2 : (n - ((c + 1 : Nat) : Int)).toNat = q := by omega
    rw [e1, e2, List.take_succ_cons]
  ·rw [if_neg hc]
   have : (n - c).toNat = 0 := by omega
   rw [this, List.take_zero]
theorem frees_mem {p : Nat → Bool} {i r j : Nat} (h : j ∈ frees p i r) : i ≤ j ∧ j < i + r ∧ p j = false := by
 unfold frees at h
 rw [List.mem_filter, List.mem_range'_1] at h
 obtain ⟨h1, h2⟩ := h
 exact ⟨h1.1, h1.2, by simpa using h2⟩
theorem frees_len (p : Nat → Bool) : ∀ (r i : Nat), (frees p i r).length + cnt ((List.range' i r).map p) = r
 | 0, i => rfl
 | r + 1, i => by
  have ih := frees_len p r (i + 1)
  rw [frees_succ, List.range'_succ, List.map_cons]
  simp only [cnt]
  by_cases h : p i = true
  ·rw [if_pos h, if_pos h]; omega
  ·rw [if_neg h, if_neg h, List.length_cons]; omega
theorem frees_sorted (p : Nat → Bool) (i r : Nat) : (frees p i r).Pairwise (· < ·) := by
 unfold frees
 exact (List.pairwise_lt_range' (s := i) (n := r)).filter _
theorem frees_head {p : Nat → Bool} : ∀ {r i x : Nat} {l : List Nat}, frees p i r = x :: l → p x = false ∧ i ≤ x ∧ x < i + r ∧ ∀ j, i ≤ j → j < x → p j = true
 | 0, i, x, l, h => by simp [frees] at h
 | r + 1, i, x, l, h => by
  rw [frees_succ] at h
  by_cases hp : p i = true
  ·rw [if_pos hp] at h
   obtain ⟨a, b, c, d⟩ := frees_head h
   refine ⟨a, by omega, by omega, fun j h1 h2 => ?_⟩
   rcases Nat.lt_or_ge i j with h3 | h3
   ·exact d j (by omega) h2
   ·have : j = i := by omega
    rw [this]; exact hp
  ·rw [if_neg hp] at h
   simp only [List.cons.injEq] at h
   obtain ⟨rfl, _⟩ := h
   refine ⟨by simpa using hp, Nat.le_refl _, by omega, fun j h1 h2 => by omega⟩
theorem frees_nil {p : Nat → Bool} {r i : Nat} (h : frees p i r = []) : ∀ j, i ≤ j → j < i + r → p j = true := by
 intro j h1 h2
 cases hp : p j with
 | true => rfl
 | false =>
  have : j ∈ frees p i r := by
   unfold frees
   rw [List.mem_filter, List.mem_range'_1]
   exact ⟨⟨h1, h2⟩, by simp [hp]⟩
  rw [h] at this; cases this
theorem pick_one (p : Nat → Bool) (r : Nat) : pick p 1 r 0 0 = (frees p 0 r).take 1 := pick_frees p 1 r 0 0
theorem blk_has (m : List (List UInt8)) {b n : Nat} (hb1 : 1 ≤ b) : ∀ j, n < j → taken m n = true → (∃ a b' c d, Bs (ino m n) a b' c d ∧ (a = b ∨ b' = b ∨ c = b ∨ d = b)) → b < 25 → (blkL m j)[b]? = some true
 | 0, h, _, _, _ => by omega
 | j + 1, h, ht, hm, hb => by
  have hs : ∀ (L : List Bool) (a : Nat), L.length = 25 → L[b]? = some true → (L.set a (decide (0 < a)))[b]? = some true := by
   intro L a hl h
   by_cases e : a = b
   ·subst e
    rw [List.getElem?_set_self (by omega)]; simp; omega
   ·rw [List.getElem?_set_ne e]; exact h
  have hs2 : ∀ (L : List Bool) (a : Nat), L.length = 25 → a = b → (L.set a (decide (0 < a)))[b]? = some true := by
   intro L a hl e
   subst e
   rw [List.getElem?_set_self (by omega)]; simp; omega
  have hl := blkL_len m j
  show (if _ then _ else _)[b]? = _
  by_cases hn : n = j
  ·subst hn
   rw [if_pos ht]
   obtain ⟨a, b', c, d, hB, hor⟩ := hm
   rw [put6_of hB]
   unfold put4
   rcases hor with e | e | e | e
   ·exact hs _ _ (by simp [hl]) (hs _ _ (by simp [hl]) (hs _ _ (by simp [hl]) (hs2 _ _ hl e)))
   ·exact hs _ _ (by simp [hl]) (hs _ _ (by simp [hl]) (hs2 _ _ (by simp [hl]) e))
   ·exact hs _ _ (by simp [hl]) (hs2 _ _ (by simp [hl]) e)
   ·exact hs2 _ _ (by simp [hl]) e
  ·have ih := blk_has m hb1 j (by omega) ht hm hb
   split
   ·obtain ⟨a, b', c, d, hB⟩ := bs_of m j
    rw [put6_of hB]
    unfold put4
    exact hs _ _ (by simp [hl]) (hs _ _ (by simp [hl]) (hs _ _ (by simp [hl]) (hs _ _ hl ih)))
   ·exact ih
theorem free_block {m : List (List UInt8)} {b n : Nat} (hb1 : 1 ≤ b) (hb : b < 25) (hf : blkB m b = false) (hn : n < 16) (ht : taken m n = true) {a b' c d : Nat} (hB : Bs (ino m n) a b' c d) : a ≠ b ∧ b' ≠ b ∧ c ≠ b ∧ d ≠ b := by
 have key : ¬ (a = b ∨ b' = b ∨ c = b ∨ d = b) := fun h => by
  have h1 := blk_has m hb1 16 hn ht ⟨a, b', c, d, hB, h⟩ hb
  rw [blkB_get m hb, hf] at h1
  cases h1
 exact ⟨fun h => key (.inl h), fun h => key (.inr (.inl h)), fun h => key (.inr (.inr (.inl h))), fun h => key (.inr (.inr (.inr h)))⟩
theorem cnt_range' (p : Nat → Bool) (r : Nat) : cnt ((List.range' 0 r).map p) = cnt ((List.range r).map p) := by rw [List.range_eq_range']
theorem own_inner {K : Heap} {v : V} {m : List (List UInt8)} (h : Has K v m) (b n : Nat) (A : Heap) (X : List V) (bk : Nat → Nat) (hX : ∀ i, i < 4 → X[2 + i]? = some (iw (bk i : Nat))) (hb : ∀ i, i < 4 → bk i = b → taken m n = false) (k : List Item) (Q : Option (V × Heap) → Prop)
  (he : ∀ φ, Fr.get φ 0 = v → Fr.get φ 1 = iw b → Fr.get φ 5 = iw n → Q (M (eval tbl noExt) k φ (K ++ (A ++ [some X])))) :
  ∀ (r i : Nat) (φ : Fr), i + r = 4 → Fr.get φ 0 = v → Fr.get φ 1 = iw b → Fr.get φ 5 = iw n → Fr.get φ 6 = .ptr (K.length + A.length) 0 → Fr.get φ 7 = iw i → Q (M (eval tbl noExt) (.code l_flotsamlaw10_owned_0 :: .blk 2 :: k) φ (K ++ (A ++ [some X]))) := by
 have h2 := h.two
 have gA : (K ++ (A ++ [some X]))[K.length + A.length]? = some (some X) := by rw [gk]; simp
 have gA2 : ∀ h, (K ++ (A ++ [some X]))[K.length + A.length]'h = some X := fun h => by
  rw [List.getElem?_eq_getElem h] at gA; exact Option.some.inj gA
 have hT := Taken_eq (h.more (A ++ [some X])) n
 obtain ⟨u, hu⟩ : ∃ u, u = v := ⟨_, rfl⟩
 intro r
 induction r with
 | zero =>
  intro i φ hi h0 h1 h5 h6 h7
  obtain rfl : i = 4 := by omega
  rw [l_flotsamlaw10_owned_0, M_loop, ← l_flotsamlaw10_owned_0]
  simp [b_flotsamlaw10_owned_0, h0, h1, h5, h6, h7]
  refine he _ ?_ ?_ ?_
  all_goals simp [h0, h1, h5]
 | succ r ih =>
  intro i φ hi h0 h1 h5 h6 h7
  have hlt : (i : Int) < 4 := by omega
  have hlt' : i < 4 := by omega
  have hle : i ≤ 3 := by omega
  have hw : IntKind.i64.wrap ((i : Int) + 1) = ((i + 1 : Nat) : Int) := by rw [w64 (by omega) (by omega)]; rfl
  have hx := hX i hlt'
  rw [l_flotsamlaw10_owned_0, M_loop, ← l_flotsamlaw10_owned_0]
  by_cases e : bk i = b
  ·rw [e] at hx
   rw [hb i hlt' e] at hT
   rcases h2 with rfl | ⟨rfl, hp⟩ <;>
   ·simp [b_flotsamlaw10_owned_0, h0, h1, h5, h6, h7, hlt, hlt', hle, hw, gA, gA2, hx, hT]
    refine ih (i + 1) _ (by omega) ?_ ?_ ?_ ?_ ?_
    all_goals simp [h0, h1, h5, h6]
  ·have e2 : ¬ ((bk i : Nat) : Int) = (b : Int) := by omega
   rcases h2 with rfl | ⟨rfl, hp⟩ <;>
   ·simp [b_flotsamlaw10_owned_0, h0, h1, h5, h6, h7, hlt, hlt', hle, hw, gA, gA2, hx, e, e2]
    refine ih (i + 1) _ (by omega) ?_ ?_ ?_ ?_ ?_
    all_goals simp [h0, h1, h5, h6]
theorem own_loop {K : Heap} {v : V} {m : List (List UInt8)} (h : Has K v m) {b : Nat} (hb1 : 1 ≤ b) (hb : b < 25) (hf : blkB m b = false) (k : List Item) (Q : Option (V × Heap) → Prop) (he : ∀ φ A, Q (M (eval tbl noExt) k φ (K ++ A))) :
  ∀ (r n : Nat) (φ : Fr) (A : Heap), n + r = 16 → Fr.get φ 0 = v → Fr.get φ 1 = iw b → Fr.get φ 5 = iw n → Q (M (eval tbl noExt) (.code l_flotsamlaw10_owned_1 :: .blk 0 :: k) φ (K ++ A)) := by
 have h2 := h.two
 intro r
 induction r with
 | zero =>
  intro n φ A hn h0 h1 h5
  obtain rfl : n = 16 := by omega
  rw [l_flotsamlaw10_owned_1, M_loop, ← l_flotsamlaw10_owned_1]
  simp [b_flotsamlaw10_owned_1, h0, h1, h5]
  exact he _ _
 | succ r ih =>
  intro n φ A hn h0 h1 h5
  have hlt : (n : Int) < 16 := by omega
  have hlt' : n < 16 := by omega
  have hw : IntKind.i64.wrap ((n : Int) + 1) = ((n + 1 : Nat) : Int) := by rw [w64 (by omega) (by omega)]; rfl
  have hI := lookInode_eq (h.more A) n hlt'
  obtain ⟨a0, a1, a2, a3, hB⟩ := bs_of m n
  obtain ⟨e1, e2, e3, e4⟩ := hB.e
  have hc : inoCells (ino m n) = [iw (ino m n).1, iw (ino m n).2.1, iw a0, iw a1, iw a2, iw a3] := by unfold inoCells; rw [e1, e2, e3, e4]
  have gA : ∀ t : Option (List V), (K ++ (A ++ [t]))[K.length + A.length]? = some t := fun t => by rw [gk]; simp
  have sA : ∀ t u : Option (List V), (K ++ (A ++ [t])).set (K.length + A.length) u = K ++ (A ++ [u]) := fun t u => by rw [sk]; simp
  let bk : Nat → Nat := fun i => match i with | 0 => a0 | 1 => a1 | 2 => a2 | _ => a3
  have hbk : ∀ i, i < 4 → bk i = b → taken m n = false := by
   intro i hi e
   cases ht : taken m n with
   | false => rfl
   | true =>
    obtain ⟨q0, q1, q2, q3⟩ := free_block hb1 hb hf hlt' ht hB
    match i, hi with
    | 0, _ => exact absurd e q0
    | 1, _ => exact absurd e q1
    | 2, _ => exact absurd e q2
    | 3, _ => exact absurd e q3
  have hX : ∀ i, i < 4 → [iw (ino m n).1, iw (ino m n).2.1, iw a0, iw a1, iw a2, iw a3][2 + i]? = some (iw (bk i : Nat)) := by
   intro i hi
   match i, hi with
   | 0, _ => rfl
   | 1, _ => rfl
   | 2, _ => rfl
   | 3, _ => rfl
  obtain ⟨u, hu⟩ : ∃ u, u = v := ⟨_, rfl⟩
  have hin := fun k' Q' he' φ' g0 g1 g5 g6 g7 => own_inner h b n A _ bk hX hbk k' Q' he' 4 0 φ' rfl g0 g1 g5 g6 g7
  rw [l_flotsamlaw10_owned_1, M_loop, ← l_flotsamlaw10_owned_1]
  rcases h2 with rfl | ⟨rfl, hp⟩ <;>
  ·simp [b_flotsamlaw10_owned_1, h0, h1, h5, hlt, hlt', hI, hc, gA, sA]
   refine hin _ Q ?_ _ ?_ ?_ ?_ ?_ ?_
   rotate_left
   all_goals first | (simp [h0, h1, h5]; done) | skip
   intro φ g0 g1 g5
   simp [r_flotsamlaw10_owned_0, g5, hw]
   refine ih (n + 1) _ _ (by omega) ?_ ?_ ?_
   all_goals simp [g0, g1]
theorem owned_eq {K : Heap} {v : V} {m : List (List UInt8)} (h : Has K v m) {b : Nat} (hb1 : 1 ≤ b) (hb : b < 25) (hf : blkB m b = false) : eval tbl noExt n_flotsamlaw10_owned [v, iw b] K = some (.bool false, K) := by
 have hl := fun k Q he φ h0 h1 h5 => own_loop h hb1 hb hf k Q he 16 0 φ [] rfl h0 h1 h5
 simp only [List.append_nil] at hl
 rw [eval_M rfl rfl t_flotsamlaw10_owned rfl]
 simp [c_flotsamlaw10_owned]
 refine hl _ (fun x => x = some (.bool false, K)) ?_ _ ?_ ?_ ?_
 ·intro φ A
  simp [r_flotsamlaw10_owned_1, tk0]
 all_goals simp
theorem af_loop0 {K : Heap} {v : V} {m : List (List UInt8)} (h : Has K v m) (n : Nat) (ok : Bool) (x11 x12 x13 : V) (hA : ∀ i : Nat, i < 16 → (ok = false ∨ i < n) → taken m i = true) (hB : ok = true → taken m n = false) (k : List Item) (Q : Option (V × Heap) → Prop)
  (he : ∀ φ, Fr.get φ 5 = v → Fr.get φ 11 = x11 → Fr.get φ 12 = x12 → Fr.get φ 13 = x13 → Q (M (eval tbl noExt) k φ K)) :
  ∀ (r i : Nat) (φ : Fr), i + r = 16 → Fr.get φ 5 = v → Fr.get φ 9 = iw n → Fr.get φ 10 = .bool ok → Fr.get φ 11 = x11 → Fr.get φ 12 = x12 → Fr.get φ 13 = x13 → Fr.get φ 17 = iw i → Q (M (eval tbl noExt) (.code l_flotsamlaw10_AllocFree_0 :: .blk 0 :: k) φ K) := by
 have h2 := h.two
 obtain ⟨u, hu⟩ : ∃ u, u = v := ⟨_, rfl⟩
 intro r
 induction r with
 | zero =>
  intro i φ hi h5 h9 h10 h11 h12 h13 h17
  obtain rfl : i = 16 := by omega
  rw [l_flotsamlaw10_AllocFree_0, M_loop, ← l_flotsamlaw10_AllocFree_0]
  simp [b_flotsamlaw10_AllocFree_0, h5, h9, h10, h11, h12, h13, h17]
  refine he _ ?_ ?_ ?_ ?_
  all_goals simp [h5, h11, h12, h13]
 | succ r ih =>
  intro i φ hi h5 h9 h10 h11 h12 h13 h17
  have hlt : (i : Int) < 16 := by omega
  have hlt' : i < 16 := by omega
  have hw : IntKind.i64.wrap ((i : Int) + 1) = ((i + 1 : Nat) : Int) := by rw [w64 (by omega) (by omega)]; rfl
  have hT := Taken_eq h i
  rw [l_flotsamlaw10_AllocFree_0, M_loop, ← l_flotsamlaw10_AllocFree_0]
  cases ok with
  | false =>
   rw [hA i hlt' (.inl rfl)] at hT
   rcases h2 with rfl | ⟨rfl, hp⟩ <;>
   ·simp [b_flotsamlaw10_AllocFree_0, h5, h9, h10, h11, h12, h13, h17, hlt, hlt', hw, hT]
    refine ih (i + 1) _ (by omega) ?_ ?_ ?_ ?_ ?_ ?_ ?_
    all_goals simp [h5, h9, h10, h11, h12, h13]
  | true =>
   rcases Nat.lt_trichotomy i n with hc | hc | hc
   ·rw [hA i hlt' (.inr hc)] at hT
    have e1 : ¬ i = n := by omega
    have e2 : ¬ (i : Int) = n := by omega
    have e3 : (i : Int) < n := by omega
    rcases h2 with rfl | ⟨rfl, hp⟩ <;>
    ·simp [b_flotsamlaw10_AllocFree_0, h5, h9, h10, h11, h12, h13, h17, hlt, hlt', hw, hT, hc, e1, e2, e3]
     refine ih (i + 1) _ (by omega) ?_ ?_ ?_ ?_ ?_ ?_ ?_
     all_goals simp [h5, h9, h10, h11, h12, h13]
   ·subst hc
    rw [hB rfl] at hT
    rcases h2 with rfl | ⟨rfl, hp⟩ <;>
    ·simp [b_flotsamlaw10_AllocFree_0, h5, h9, h10, h11, h12, h13, h17, hlt, hlt', hw, hT]
     refine ih (i + 1) _ (by omega) ?_ ?_ ?_ ?_ ?_ ?_ ?_
     all_goals simp [h5, h9, h10, h11, h12, h13]
   ·have e0 : ¬ i < n := by omega
    have e1 : ¬ i = n := by omega
    have e2 : ¬ (i : Int) = n := by omega
    have e3 : ¬ (i : Int) < n := by omega
    simp [b_flotsamlaw10_AllocFree_0, h5, h9, h10, h11, h12, h13, h17, hlt, hlt', hw, e0, e1, e2, e3]
    refine ih (i + 1) _ (by omega) ?_ ?_ ?_ ?_ ?_ ?_ ?_
    all_goals simp [h5, h9, h10, h11, h12, h13]
theorem af_loop1 {K : Heap} {v : V} {m : List (List UInt8)} (h : Has K v m) (n : Nat) (ok : Bool) (x13 : V) (hA : ∀ i : Nat, i < 24 → (ok = false ∨ i < n) → usedK m i = true) (hB : ok = true → usedK m n = false) (k : List Item) (Q : Option (V × Heap) → Prop)
  (he : ∀ φ A, Fr.get φ 5 = v → Fr.get φ 13 = x13 → Q (M (eval tbl noExt) k φ (K ++ A))) :
  ∀ (r i : Nat) (φ : Fr) (A : Heap), i + r = 24 → Fr.get φ 5 = v → Fr.get φ 11 = iw n → Fr.get φ 12 = .bool ok → Fr.get φ 13 = x13 → Fr.get φ 18 = iw i → Q (M (eval tbl noExt) (.code l_flotsamlaw10_AllocFree_1 :: .blk 2 :: k) φ (K ++ A)) := by
 have h2 := h.two
 obtain ⟨u, hu⟩ : ∃ u, u = v := ⟨_, rfl⟩
 intro r
 induction r with
 | zero =>
  intro i φ A hi h5 h11 h12 h13 h18
  obtain rfl : i = 24 := by omega
  rw [l_flotsamlaw10_AllocFree_1, M_loop, ← l_flotsamlaw10_AllocFree_1]
  simp [b_flotsamlaw10_AllocFree_1, h5, h11, h12, h13, h18]
  refine he _ _ ?_ ?_
  all_goals simp [h5, h13]
 | succ r ih =>
  intro i φ A hi h5 h11 h12 h13 h18
  have hlt : (i : Int) < 24 := by omega
  have hlt' : i < 24 := by omega
  have hw : IntKind.i64.wrap ((i : Int) + 1) = ((i + 1 : Nat) : Int) := by rw [w64 (by omega) (by omega)]; rfl
  have hE := lookEntry_eq (h.more A) i hlt'
  have hc : (ent m i).cells = [.bool (ent m i).used, iw (ent m i).parent, .str (ent m i).name, iw (ent m i).target] := rfl
  have gA : ∀ t : Option (List V), (K ++ (A ++ [t]))[K.length + A.length]? = some t := fun t => by rw [gk]; simp
  have sA : ∀ t u : Option (List V), (K ++ (A ++ [t])).set (K.length + A.length) u = K ++ (A ++ [u]) := fun t u => by rw [sk]; simp
  rw [l_flotsamlaw10_AllocFree_1, M_loop, ← l_flotsamlaw10_AllocFree_1]
  cases ok with
  | false =>
   have hu2 : (ent m i).used = true := hA i hlt' (.inl rfl)
   rcases h2 with rfl | ⟨rfl, hp⟩ <;>
   ·simp [b_flotsamlaw10_AllocFree_1, h5, h11, h12, h13, h18, hlt, hlt', hw, hE, hc, hu2, gA, sA]
    refine ih (i + 1) _ _ (by omega) ?_ ?_ ?_ ?_ ?_
    all_goals simp [h5, h11, h12, h13]
  | true =>
   rcases Nat.lt_trichotomy i n with hcc | hcc | hcc
   ·have hu2 : (ent m i).used = true := hA i hlt' (.inr hcc)
    have e1 : ¬ i = n := by omega
    have e2 : ¬ (i : Int) = n := by omega
    have e3 : (i : Int) < n := by omega
    rcases h2 with rfl | ⟨rfl, hp⟩ <;>
    ·simp [b_flotsamlaw10_AllocFree_1, h5, h11, h12, h13, h18, hlt, hlt', hw, hE, hc, hu2, gA, sA, hcc, e1, e2, e3]
     refine ih (i + 1) _ _ (by omega) ?_ ?_ ?_ ?_ ?_
     all_goals simp [h5, h11, h12, h13]
   ·subst hcc
    have hu2 : (ent m i).used = false := hB rfl
    rcases h2 with rfl | ⟨rfl, hp⟩ <;>
    ·simp [b_flotsamlaw10_AllocFree_1, h5, h11, h12, h13, h18, hlt, hlt', hw, hE, hc, hu2, gA, sA]
     refine ih (i + 1) _ _ (by omega) ?_ ?_ ?_ ?_ ?_
     all_goals simp [h5, h11, h12, h13]
   ·have e0 : ¬ i < n := by omega
    have e1 : ¬ i = n := by omega
    have e2 : ¬ (i : Int) = n := by omega
    have e3 : ¬ (i : Int) < n := by omega
    rcases h2 with rfl | ⟨rfl, hp⟩ <;>
    ·simp [b_flotsamlaw10_AllocFree_1, h5, h11, h12, h13, h18, hlt, hlt', hw, hE, hc, gA, sA, e0, e1, e2, e3]
     refine ih (i + 1) _ _ (by omega) ?_ ?_ ?_ ?_ ?_
     all_goals simp [h5, h11, h12, h13]
theorem af_loop2 {K : Heap} {v : V} {m : List (List UInt8)} (h : Has K v m) (P : List Nat) (hP : ∀ x ∈ P, 1 ≤ x ∧ x < 25 ∧ blkB m x = false) (hS : P.Pairwise (· < ·)) (hl : P.length ≤ 24) (k : List Item) (Q : Option (V × Heap) → Prop)
  (he : ∀ φ, Fr.get φ 5 = v → Fr.get φ 13 = .sl 1 (nr P) → Q (M (eval tbl noExt) k φ K)) :
  ∀ (r i : Nat) (φ : Fr), i + r = P.length → Fr.get φ 5 = v → Fr.get φ 13 = .sl 1 (nr P) → Fr.get φ 20 = iw i → Q (M (eval tbl noExt) (.code l_flotsamlaw10_AllocFree_2 :: .blk 4 :: k) φ K) := by
 have h2 := h.two
 obtain ⟨u, hu⟩ : ∃ u, u = v := ⟨_, rfl⟩
 intro r
 induction r with
 | zero =>
  intro i φ hi h5 h13 h20
  have hlt' : ¬ i < P.length := by omega
  rw [l_flotsamlaw10_AllocFree_2, M_loop, ← l_flotsamlaw10_AllocFree_2]
  simp [b_flotsamlaw10_AllocFree_2, h5, h13, h20, hlt']
  refine he _ ?_ ?_
  all_goals simp [h5, h13]
 | succ r ih =>
  intro i φ hi h5 h13 h20
  have hlt' : i < P.length := by omega
  have hlt : (i : Int) < P.length := by omega
  have hw : IntKind.i64.wrap ((i : Int) + 1) = ((i + 1 : Nat) : Int) := by rw [w64 (by omega) (by omega)]; rfl
  obtain ⟨x, hx⟩ : ∃ x, x = P[i] := ⟨_, rfl⟩
  have hg : ∀ h, P[i]'h = x := fun _ => hx.symm
  obtain ⟨x1, x2, x3⟩ := hP x (by rw [hx]; exact List.getElem_mem hlt')
  have hO := owned_eq h x1 x2 x3
  have e1 : ¬ (x : Int) < 1 := by omega
  have e2 : ¬ (24 : Int) < x := by omega
  have e1' : ¬ x = 0 := by omega
  have e2' : ¬ 24 < x := by omega
  rw [l_flotsamlaw10_AllocFree_2, M_loop, ← l_flotsamlaw10_AllocFree_2]
  cases i with
  | zero =>
   rcases h2 with rfl | ⟨rfl, hp⟩ <;>
   ·simp [b_flotsamlaw10_AllocFree_2, h5, h13, h20, hlt, hlt', hw, hg, e1, e2, e1', e2', hO]
    refine ih 1 _ (by omega) ?_ ?_ ?_
    all_goals simp [h5, h13, show IntKind.i64.wrap 1 = 1 from rfl]
  | succ j =>
   have hlj : j < P.length := by omega
   have hljI : (j : Int) < P.length := by omega
   obtain ⟨y, hy⟩ : ∃ y, y = P[j] := ⟨_, rfl⟩
   have hgy : ∀ h, P[j]'h = y := fun _ => hy.symm
   have hyx : y < x := by
    rw [hx, hy]
    exact List.pairwise_iff_getElem.1 hS j (j + 1) hlj hlt' (by omega)
   have e3 : ¬ (x : Int) ≤ y := by omega
   have e3' : ¬ x ≤ y := by omega
   have wj : IntKind.i64.wrap (((j + 1 : Nat) : Int) - 1) = (j : Int) := by rw [w64 (by omega) (by omega)]; omega
   have wj2 : IntKind.i64.wrap (((j : Int) + 1) - 1) = (j : Int) := by rw [w64 (by omega) (by omega)]; omega
   have wj3 : IntKind.i64.wrap (j : Int) = (j : Int) := by rw [w64 (by omega) (by omega)]
   have p0 : (0 : Int) < (j : Int) + 1 := by omega
   have p1 : (0 : Int) ≤ (j : Int) + 1 := by omega
   push_cast at hlt hw h20
   rcases h2 with rfl | ⟨rfl, hp⟩ <;>
   ·simp [b_flotsamlaw10_AllocFree_2, h5, h13, h20, hlt, hlt', hw, hg, hgy, hlj, hljI, e1, e2, e1', e2', e3, e3', wj2, wj3, p0, p1, hO]
    refine ih (j + 1 + 1) _ (by omega) ?_ ?_ ?_
    all_goals simp [h5, h13]
theorem one_facts (p : Nat → Bool) (r : Nat) (P : List Nat) (hP : P = pick p 1 r 0 0) (a : Nat) (ha : a = cnt ((List.range r).map p)) :
  (!P.isEmpty) = decide (a < r) ∧ (∀ i : Nat, i < r → ((!P.isEmpty) = false ∨ i < P.headD 0) → p i = true) ∧ ((!P.isEmpty) = true → p (P.headD 0) = false) := by
 have hl := frees_len p r 0
 rw [cnt_range', ← ha] at hl
 rw [pick_one] at hP
 cases hF : frees p 0 r with
 | nil =>
  rw [hF] at hP hl
  simp only [List.take_nil] at hP
  subst hP
  simp only [List.length_nil, Nat.zero_add] at hl
  refine ⟨by simp [hl], fun i hi _ => frees_nil hF i (Nat.zero_le _) (by omega), fun h => by simp at h⟩
 | cons x l =>
  rw [hF] at hP hl
  simp only [List.take_succ_cons, List.take_zero] at hP
  subst hP
  simp only [List.length_cons] at hl
  obtain ⟨h1, _, _, h4⟩ := frees_head hF
  refine ⟨by simp; omega, fun i hi h => ?_, fun _ => h1⟩
  rcases h with h | h
  ·simp at h
  ·exact h4 i (Nat.zero_le _) (by simpa using h)
theorem free_facts (m : List (List UInt8)) (F : List Nat) (hF : F = frees (blkB m) 1 24) (c : Nat) (hc : c = cnt (blkL m 16)) :
  F.length + c = 24 ∧ (∀ x ∈ F, 1 ≤ x ∧ x < 25 ∧ blkB m x = false) ∧ F.Pairwise (· < ·) := by
 have hl := frees_len (blkB m) 24 1
 have e : (List.range' 1 24).map (blkB m) = (List.range 24).map fun i => usedB m (i + 1) := by
  rw [List.range'_eq_map_range, List.map_map]
  apply List.map_congr_left
  intro i _
  simp only [Function.comp]
  rw [Nat.add_comm, blkB_eq m (by omega)]
 rw [e, ← blkL_map, ← hc, ← hF] at hl
 refine ⟨hl, fun x hx => ?_, by rw [hF]; exact frees_sorted _ _ _⟩
 rw [hF] at hx
 obtain ⟨a, b, d⟩ := frees_mem hx
 exact ⟨a, by omega, d⟩
theorem AllocFree_eq (l : List (List UInt8)) (hl : ∀ s ∈ l, s.length = 32) (ws : List Wr) (hw : ∀ x ∈ ws, x.s.length = 32) :
  ∃ H', eval tbl noExt n_flotsamlaw10_AllocFree [.sl 32 (l.map bys), .sl 36 (ws.map Wr.cells)] [] = some (.bool true, H') := by
 have hK := knows10
 refine ⟨[], ?_⟩
 by_cases h1 : l.length ≤ 200
 ·by_cases h2 : ws.length ≤ 40
  ·obtain ⟨v, K, hD, hH⟩ := Disk_eq hl hw h2
   have hm := hH.sec
   have g1 : ¬ (200 : Int) < l.length := by omega
   have g2 : ¬ (40 : Int) < ws.length := by omega
   have g1' : ¬ 200 < l.length := by omega
   have g2' : ¬ 40 < ws.length := by omega
   have a1 := Inode_eq2 hH
   have a2 := Slot_eq2 hH
   have a4 := Count_eq2 hH
   have aB := fun n => Blocks_eq2 hH n
   obtain ⟨m, hm2⟩ : ∃ m, m = withM l ws := ⟨_, rfl⟩
   rw [← hm2] at hH a1 a2 a4 aB
   obtain ⟨P1, hP1⟩ : ∃ P, P = pick (taken m ·) 1 16 0 0 := ⟨_, rfl⟩
   obtain ⟨P2, hP2⟩ : ∃ P, P = pick (usedK m) 1 24 0 0 := ⟨_, rfl⟩
   obtain ⟨ca, hca⟩ : ∃ a, a = cnt (inL m 24) := ⟨_, rfl⟩
   obtain ⟨cb, hcb⟩ : ∃ a, a = cnt (entL m 24) := ⟨_, rfl⟩
   obtain ⟨cc, hcc⟩ : ∃ a, a = cnt (blkL m 16) := ⟨_, rfl⟩
   obtain ⟨F, hF⟩ : ∃ F, F = frees (blkB m) 1 24 := ⟨_, rfl⟩
   obtain ⟨o1, o2, o3⟩ := one_facts (fun n : Nat => taken m n) 16 P1 hP1 ca (by rw [hca, inL_map])
   obtain ⟨s1, s2, s3⟩ := one_facts (usedK m) 24 P2 hP2 cb (by rw [hcb, entL_map])
   obtain ⟨f1, f2, f3⟩ := free_facts m F hF cc hcc
   rw [← hP1] at a1
   rw [← hP2] at a2
   rw [← hca, ← hcb, ← hcc] at a4
   have hpk : ∀ n : Int, pick (blkB m) n 24 1 0 = F.take n.toNat := fun n => by rw [pick_frees, hF]; congr 1; omega
   simp only [hpk] at aB
   have b1 : eval tbl noExt n_alloc_Blocks [v, iw (24 - cc)] K = some (.tup [.sl 1 (nr F), .bool true], K) := by
    rw [aB]
    have e1 : ((24 : Int) - cc).toNat = F.length := by omega
    rw [e1, List.take_length, if_pos (by omega)]
   have b2 : eval tbl noExt n_alloc_Blocks [v, iw (24 - cc + 1)] K = some (.tup [.sl 1 [], .bool false], K) := by
    rw [aB]
    have e1 : ((24 : Int) - cc + 1).toNat = F.length + 1 := by omega
    rw [e1, List.take_of_length_le (by omega), if_neg (by omega)]
   have hfl : F.length ≤ 24 := by omega
   have b3 : eval tbl noExt n_alloc_Blocks [v, iw (F.length / 2 : Nat)] K = some (.tup [.sl 1 (nr (F.take (F.length / 2))), .bool true], K) := by
    rw [aB]
    have e1 : (((F.length / 2 : Nat) : Int)).toNat = F.length / 2 := by omega
    rw [e1, if_pos (by rw [List.length_take]; omega)]
   have hI := Ints_same (F.take (F.length / 2)) (by rw [List.length_take]; omega) []
   have w1 : IntKind.i64.wrap ((24 : Int) - cc) = 24 - cc := w64 (by omega) (by omega)
   have w2 : IntKind.i64.wrap ((24 : Int) - cc + 1) = 24 - cc + 1 := w64 (by omega) (by omega)
   have q1 : ((F.length : Int)).tdiv 2 = ((F.length / 2 : Nat) : Int) := by rw [Int.tdiv_eq_ediv_of_nonneg (by omega)]; omega
   have w3 : IntKind.i64.wrap (((F.length / 2 : Nat) : Int)) = ((F.length / 2 : Nat) : Int) := w64 (by omega) (by omega)
   have e24 : (F.length : Int) = 24 - cc := by omega
   have c16 : decide ((ca : Int) < 16) = decide (ca < 16) := by
    by_cases h : ca < 16
    ·rw [decide_eq_true h, decide_eq_true (by omega)]
    ·rw [decide_eq_false h, decide_eq_false (by omega)]
   have c24 : decide ((cb : Int) < 24) = decide (cb < 24) := by
    by_cases h : cb < 24
    ·rw [decide_eq_true h, decide_eq_true (by omega)]
    ·rw [decide_eq_false h, decide_eq_false (by omega)]
   have L0 := fun x11 x12 x13 k Q he φ h5 h9 h10 h11 h12 h13 h17 => af_loop0 hH (P1.headD 0) (!P1.isEmpty) x11 x12 x13 o2 o3 k Q he 16 0 φ rfl h5 h9 h10 h11 h12 h13 h17
   have L1 := fun x13 k Q he φ h5 h11 h12 h13 h18 => af_loop1 hH (P2.headD 0) (!P2.isEmpty) x13 s2 s3 k Q he 24 0 φ [] rfl h5 h11 h12 h13 h18
   have L2 := fun A k Q he φ h5 h13 h20 => af_loop2 (hH.more A) F f2 f3 hfl k Q he F.length 0 φ (by omega) h5 h13 h20
   have b3' := fun A : Heap => (by
    have := Blocks_eq2 (hH.more A) (F.length / 2 : Nat)
    rw [hpk, show (((F.length / 2 : Nat) : Int)).toNat = F.length / 2 by omega, if_pos (by rw [List.length_take]; omega)] at this
    exact this : eval tbl noExt n_alloc_Blocks [v, iw (F.length / 2 : Nat)] (K ++ A) = some (.tup [.sl 1 (nr (F.take (F.length / 2))), .bool true], K ++ A))
   simp only [List.append_nil] at L1
   have d1 : F.length / 2 ≤ F.length := by omega
   have d2 : ((F.length / 2 : Nat) : Int) ≤ F.length := by omega
   clear b3 q1 w3
   generalize hz : F.length / 2 = z at *
   have q2 : IntKind.i64.wrap ((F.length : Int) / 2) = (z : Int) := by rw [w64 (by omega) (by omega)]; omega
   have d3 : (0 : Int) ≤ z := by omega
   have hI2 : eval tbl noExt n_flotsamlaw04_Ints [.sl 1 (List.take z (nr F)), .sl 1 (List.take z (nr F))] [] = some (.bool true, []) := by
    have e : List.take z (nr F) = nr (F.take z) := (List.map_take ..).symm
    rw [e]; exact hI
   have h2v := hH.two
   obtain ⟨u, hu⟩ : ∃ u, u = v := ⟨_, rfl⟩
   generalize P1.headD 0 = x1 at *
   generalize P2.headD 0 = x2 at *
   generalize (!P1.isEmpty) = y1 at *
   generalize (!P2.isEmpty) = y2 at *
   rw [eval_M rfl rfl t_flotsamlaw10_AllocFree rfl]
   rcases h2v with rfl | ⟨rfl, hp⟩ <;>
   ·simp [c_flotsamlaw10_AllocFree, g1, g2, g1', g2', hK, hD, a1, a2, a4, b1, b2, w1, w2, e24, c16, c24, o1, s1]
    refine L0 (iw x2) (.bool y2) (.sl 1 (nr F)) _ (fun x => x = some (.bool true, [])) ?_ _ ?_ ?_ ?_ ?_ ?_ ?_ ?_
    rotate_left
    all_goals first | (simp [o1, s1, ← hu]; done) | skip
    intro φ h5 h11 h12 h13
    simp [r_flotsamlaw10_AllocFree_2, h5, h11, h12, h13]
    refine L1 (.sl 1 (nr F)) _ (fun x => x = some (.bool true, [])) ?_ _ ?_ ?_ ?_ ?_ ?_
    rotate_left
    all_goals first | (simp [h5, h11, h12, h13]; done) | skip
    intro φ A h5 h13
    simp [r_flotsamlaw10_AllocFree_1, h5, h13]
    refine L2 A _ (fun x => x = some (.bool true, [])) ?_ _ ?_ ?_ ?_
    rotate_left
    all_goals first | (simp [h5, h13]; done) | skip
    intro φ h5 h13
    simp [r_flotsamlaw10_AllocFree_0, h5, h13, q2, b3', hI, d1, d2, d3, hI2]
  ·have g1 : ¬ (200 : Int) < l.length := by omega
   have g2 : (40 : Int) < ws.length := by omega
   have g1' : ¬ 200 < l.length := by omega
   have g2' : 40 < ws.length := by omega
   rw [eval_M rfl rfl t_flotsamlaw10_AllocFree rfl]
   simp [c_flotsamlaw10_AllocFree, g1, g2, g1', g2', hK]
 ·have g1 : (200 : Int) < l.length := by omega
  have g1' : 200 < l.length := by omega
  rw [eval_M rfl rfl t_flotsamlaw10_AllocFree rfl]
  simp [c_flotsamlaw10_AllocFree, g1, g1', hK]
end Go.AM.Spec
