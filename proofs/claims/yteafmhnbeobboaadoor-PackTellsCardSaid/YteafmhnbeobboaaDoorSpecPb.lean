/-
  The parts of this proof that speak of the functions one by one.
-/
import Derived.Test.YteafmhnbeobboaaDoorSpecPa
import Derived.Test.YteafmhnbeobboaaDoorSpecSi
import Derived.Test.YteafmhnbeobboaaDoorSpecSc
import Derived.Test.YteafmhnbeobboaaDoorTyl
namespace Go.AM.Spec
set_option linter.unusedVariables false
set_option linter.unusedSimpArgs false
set_option maxHeartbeats 1000000
set_option maxRecDepth 10000

structure RS where
  b : List UInt8
  ok : Bool

def numP (s : RS) : Nat × RS := match takeP 0 0 s.b with
  | some (n, r) => if s.ok = true ∧ n ≤ 1048576 then (n, ⟨r, true⟩) else (0, ⟨r, false⟩)
  | none => (0, ⟨[], false⟩)

theorem takeP_len : ∀ (l : List UInt8) (i a n : Nat) (r : List UInt8), takeP i a l = some (n, r) → r.length < l.length
  | [], i, a, n, r, h => by simp [takeP] at h
  | c :: l, i, a, n, r, h => by
    unfold takeP at h
    split at h
    · cases h
    · split at h
      · cases h
      · split at h
        · cases h; simp
        · have := takeP_len l _ _ n r h
          simp; omega

theorem numP_len (s : RS) : (numP s).2.b.length ≤ s.b.length ∧ ((numP s).2.ok = true → s.ok = true ∧ (numP s).2.b.length < s.b.length) := by
  unfold numP
  split
  · rename_i n r h
    have := takeP_len _ _ _ _ _ h
    split
    · rename_i h1
      exact ⟨Nat.le_of_lt this, fun _ => ⟨h1.1, this⟩⟩
    · exact ⟨Nat.le_of_lt this, fun h => by cases h⟩
  · exact ⟨by simp, fun h => by cases h⟩

theorem numP_le (s : RS) : (numP s).1 ≤ 1048576 := by
  unfold numP
  split
  · split
    · rename_i h; exact h.2
    · simp
  · simp

theorem numP_bad {s : RS} (h : s.ok = false) : (numP s).1 = 0 ∧ (numP s).2.ok = false := by
  unfold numP
  split
  · rw [if_neg (by rw [h]; simp)]; exact ⟨rfl, rfl⟩
  · exact ⟨rfl, rfl⟩

/-- The memory with the reader in block i. -/
def Hs (HB : Heap) (i : Nat) (row : V) (s : RS) : Heap := HB.set i (some [.sl 1 (bytesRows s.b), .bool s.ok, row])
theorem Hs_len (HB : Heap) (i : Nat) (row : V) (s : RS) : (Hs HB i row s).length = HB.length := by simp [Hs]
theorem Hs_at {HB : Heap} {i : Nat} (hi : i < HB.length) (row : V) (s : RS) : (Hs HB i row s)[i]? = some (some [.sl 1 (bytesRows s.b), .bool s.ok, row]) := List.getElem?_set_self hi
theorem Hs_set (HB : Heap) (i : Nat) (row : V) (s t : RS) : (Hs HB i row s).set i (some [.sl 1 (bytesRows t.b), .bool t.ok, row]) = Hs HB i row t := by simp [Hs]
theorem Hs_push {HB : Heap} {i : Nat} (hi : i < HB.length) (row : V) (s : RS) (r : Heap) : Hs HB i row s ++ r = Hs (HB ++ r) i row s := by
  unfold Hs
  rw [List.set_append_left _ _ hi]

theorem number_eq (HB : Heap) (i : Nat) (hi : i < HB.length) (row : V) (hrow : V.one row = true) (s : RS) (hs : s.b.length ≤ 100000) : eval tbl noExt n_ppack_left_number [.ptr i 0] (Hs HB i row s) = some (.int .i64 (numP s).1, Hs HB i row (numP s).2) := by
  have hT := take_eq s.b hs []
  have hil : i < (Hs HB i row s).length := by rw [Hs_len]; exact hi
  have hg : ∀ h : i < (Hs HB i row s).length, (Hs HB i row s)[i] = some [.sl 1 (bytesRows s.b), .bool s.ok, row] := fun h => by
    have := Hs_at hi row s
    rw [List.getElem?_eq_getElem h] at this
    exact Option.some.inj this
  have hset : ∀ x, (Hs HB i row s).set i x = HB.set i x := fun x => by simp [Hs]
  rw [eval_M rfl rfl t_ppack_left_number rfl]
  unfold numP
  cases hp : takeP 0 0 s.b with
  | none =>
    rw [hp] at hT
    simp only [takeV] at hT
    cases hok : s.ok with
    | true =>
      rw [hok] at hg
      simp [c_ppack_left_number, hil, hi, hg, hT, lt_codec_TakeUint, hset]
      rw [List.take_of_length_le (by simp [Hs_len])]; rfl
    | false =>
      rw [hok] at hg
      simp [c_ppack_left_number, hil, hi, hg, hT, lt_codec_TakeUint, hset]
      rw [List.take_of_length_le (by simp [Hs_len])]; rfl
  | some p =>
    obtain ⟨n, r⟩ := p
    rw [hp] at hT
    simp only [takeV] at hT
    cases hok : s.ok with
    | false =>
      rw [hok] at hg
      simp [c_ppack_left_number, hil, hi, hg, hT, lt_codec_TakeUint, hset]
      rw [List.take_of_length_le (by simp [Hs_len])]; rfl
    | true =>
      rw [hok] at hg
      by_cases hn : n ≤ 1048576
      · have hn' : (n : Int) ≤ 1048576 := by omega
        have e : IntKind.i64.wrap (n : Int) = (n : Int) := by rw [w64 (by omega) (by omega)]
        simp [c_ppack_left_number, hil, hi, hg, hT, lt_codec_TakeUint, hset, hn, hn', e]
        rw [List.take_of_length_le (by simp [Hs_len])]; rfl
      · have hn' : ¬ (n : Int) ≤ 1048576 := by omega
        simp [c_ppack_left_number, hil, hi, hg, hT, lt_codec_TakeUint, hset, hn, hn']
        rw [List.take_of_length_le (by simp [Hs_len])]; rfl

theorem numberX {HB : Heap} {i : Nat} (hi : i < HB.length) {row : V} (hrow : V.one row = true) {s s' : RS} {v : Nat} (hs : s.b.length ≤ 100000) (h : numP s = (v, s')) (r : Heap) : eval tbl noExt n_ppack_left_number [.ptr i 0] (Hs HB i row s ++ r) = some (.int .i64 v, Hs HB i row s' ++ r) := by
  rw [Hs_push hi, Hs_push hi, number_eq (HB ++ r) i (by simp; omega) row hrow s hs, h]

theorem gHs0 (HB : Heap) (i : Nat) (row : V) (s : RS) (x : Option (List V)) (r : Heap) : (Hs HB i row s ++ x :: r)[HB.length]? = some x := by
  have := get0 (Hs HB i row s) x r
  rwa [Hs_len] at this
theorem gHs1 (HB : Heap) (i : Nat) (row : V) (s : RS) (a x : Option (List V)) (r : Heap) : (Hs HB i row s ++ a :: x :: r)[HB.length + 1]? = some x := by
  have := get1 (Hs HB i row s) a x r
  rwa [Hs_len] at this
theorem sHs0 (HB : Heap) (i : Nat) (row : V) (s : RS) (x y : Option (List V)) (r : Heap) : (Hs HB i row s ++ x :: r).set HB.length y = Hs HB i row s ++ y :: r := by
  have := set0 (Hs HB i row s) x y r
  rwa [Hs_len] at this
theorem sHs1 (HB : Heap) (i : Nat) (row : V) (s : RS) (a x y : Option (List V)) (r : Heap) : (Hs HB i row s ++ a :: x :: r).set (HB.length + 1) y = Hs HB i row s ++ a :: y :: r := by
  have := set1 (Hs HB i row s) a x y r
  rwa [Hs_len] at this
theorem tHs (HB : Heap) (i : Nat) (row : V) (s : RS) (r : Heap) : (Hs HB i row s ++ r).take HB.length = Hs HB i row s := by
  rw [List.take_append_of_le_length (by rw [Hs_len]; exact Nat.le_refl _), List.take_of_length_le (by rw [Hs_len]; exact Nat.le_refl _)]
theorem tHs' (HB : Heap) (i : Nat) (row : V) (s : RS) : (Hs HB i row s).take HB.length = Hs HB i row s := List.take_of_length_le (by rw [Hs_len]; exact Nat.le_refl _)

def cellP (s : RS) : Ce × RS :=
  if (numP s).1 = 1 then
    (⟨1, (numP (numP s).2).1, (numP (numP (numP s).2).2).1, (numP (numP (numP (numP s).2).2).2).1, (numP (numP (numP (numP (numP s).2).2).2).2).1, 0⟩, (numP (numP (numP (numP (numP s).2).2).2).2).2)
  else if (numP s).1 = 2 then (⟨2, 0, 0, 0, 0, (numP (numP s).2).1⟩, (numP (numP s).2).2)
  else (⟨(numP s).1, 0, 0, 0, 0, 0⟩, (numP s).2)

theorem cell34_eq (HB : Heap) (i : Nat) (hi : i < HB.length) (row : V) (hrow : V.one row = true) (s : RS) (hs : s.b.length ≤ 100000) : eval tbl noExt n_ppack_reader_cell [.ptr i 0] (Hs HB i row s) = some (.agg (cellP s).1.cells, Hs HB i row (cellP s).2) := by
  unfold cellP
  obtain ⟨v1, s1, h1⟩ : ∃ v1 s1, numP s = (v1, s1) := ⟨_, _, rfl⟩
  obtain ⟨v2, s2, h2⟩ : ∃ v1 s', numP s1 = (v1, s') := ⟨_, _, rfl⟩
  obtain ⟨v3, s3, h3⟩ : ∃ v1 s', numP s2 = (v1, s') := ⟨_, _, rfl⟩
  obtain ⟨v4, s4, h4⟩ : ∃ v1 s', numP s3 = (v1, s') := ⟨_, _, rfl⟩
  obtain ⟨v5, s5, h5⟩ : ∃ v1 s', numP s4 = (v1, s') := ⟨_, _, rfl⟩
  have l1 := (numP_len s).1
  have l2 := (numP_len s1).1
  have l3 := (numP_len s2).1
  have l4 := (numP_len s3).1
  have b3 := numP_le s2
  rw [h1] at l1; rw [h2] at l2; rw [h3] at l3 b3; rw [h4] at l4
  dsimp only at l1 l2 l3 l4 b3
  have n1 := numberX hi hrow hs h1
  have n2 := numberX hi hrow (by omega) h2
  have n3 := numberX hi hrow (by omega) h3
  have n4 := numberX hi hrow (by omega) h4
  have n5 := numberX hi hrow (by omega) h5
  have e3 : IntKind.u64.wrap (v3 : Int) = (v3 : Int) := by rw [IntKind.wrap_u64]; omega
  simp only [h1, h2, h3, h4, h5]
  rw [eval_M rfl rfl t_ppack_reader_cell rfl]
  by_cases a1 : v1 = 1
  · have a1' : (v1 : Int) = 1 := by omega
    simp [c_ppack_reader_cell, n1, n2, n3, n4, n5, a1, e3, gHs0, gHs1, sHs0, sHs1, Hs_len, tHs, lt_ppack_left_number, Ce.cells]
  · by_cases a2 : v1 = 2
    · have a2' : (v1 : Int) = 2 := by omega
      simp [c_ppack_reader_cell, n1, n2, a2, gHs0, gHs1, sHs0, sHs1, Hs_len, tHs, lt_ppack_left_number, Ce.cells]
    · have a1' : ¬ (v1 : Int) = 1 := by omega
      have a2' : ¬ (v1 : Int) = 2 := by omega
      simp [c_ppack_reader_cell, n1, a1, a2, a1', a2', gHs0, gHs1, sHs0, sHs1, Hs_len, tHs, lt_ppack_left_number, Ce.cells]

theorem cellP_len (s : RS) : (cellP s).2.b.length ≤ s.b.length ∧ ((cellP s).2.ok = true → s.ok = true ∧ (cellP s).2.b.length < s.b.length) := by
  have h1 := numP_len s
  have h2 := numP_len (numP s).2
  have h3 := numP_len (numP (numP s).2).2
  have h4 := numP_len (numP (numP (numP s).2).2).2
  have h5 := numP_len (numP (numP (numP (numP s).2).2).2).2
  unfold cellP
  split
  · exact ⟨by dsimp only; omega, fun h => by
      have e4 := h5.2 h; have e3 := h4.2 e4.1; have e2 := h3.2 e3.1; have e1 := h2.2 e2.1; have e0 := h1.2 e1.1
      exact ⟨e0.1, by dsimp only; omega⟩⟩
  · split
    · exact ⟨by dsimp only; omega, fun h => by
        have e1 := h2.2 h; have e0 := h1.2 e1.1
        exact ⟨e0.1, by dsimp only; omega⟩⟩
    · exact h1

def cellsP : Nat → RS → List Ce × RS
  | 0, s => ([], s)
  | k + 1, s => if s.ok = true then ((cellP s).1 :: (cellsP k (cellP s).2).1, (cellsP k (cellP s).2).2) else ([], s)

theorem cellsP_len : ∀ (k : Nat) (s : RS), (cellsP k s).2.b.length ≤ s.b.length ∧ ((cellsP k s).2.ok = true → s.ok = true) ∧ (cellsP k s).1.length ≤ k
  | 0, s => by simp [cellsP]
  | k + 1, s => by
    have h1 := cellP_len s
    have h2 := cellsP_len k (cellP s).2
    unfold cellsP
    split
    · exact ⟨by dsimp only; omega, fun h => (h1.2 (h2.2.1 h)).1, by simp; exact h2.2.2⟩
    · exact ⟨Nat.le_refl _, fun h => h, by simp⟩

theorem cellsP34_loop (HB : Heap) (i : Nat) (hi : i < HB.length) (row : Nat) (hrow : row ≤ 1000) (Q : Option (V × Heap) → Prop) (k : List Item) (L : List Ce) (S : RS) (hexit : ∀ φ', Fr.get φ' 3 = .own 6 (L.map Ce.cells) → Q (M (eval tbl noExt) k φ' (Hs HB i (.int .i64 row) S))) :
    ∀ (m j : Nat) (φ : Fr) (acc : List Ce) (s : RS), m + j = row → acc.length ≤ j → s.b.length ≤ 100000 → acc ++ (cellsP m s).1 = L → (cellsP m s).2 = S → Fr.get φ 0 = .ptr i 0 → Fr.get φ 3 = .own 6 (acc.map Ce.cells) → Fr.get φ 7 = .int .i64 row → Fr.get φ 8 = .int .i64 j →
      Q (M (eval tbl noExt) (.code l_ppack_reader_cells_0 :: .blk 0 :: k) φ (Hs HB i (.int .i64 row) s)) := by
  intro m
  induction m with
  | zero =>
    intro j φ acc s hj ha hs hL hS h0 h3 h7 h8
    have hlt : ¬ (j : Int) < row := by omega
    have hlt' : ¬ j < row := by omega
    simp only [cellsP, List.append_nil] at hL hS
    subst hL; subst hS
    rw [l_ppack_reader_cells_0, M_loop]
    simp [b_ppack_reader_cells_0, h0, h3, h7, h8, hlt, hlt']
    exact hexit _ (by simp [h3])
  | succ m ih =>
    intro j φ acc s hj ha hs hL hS h0 h3 h7 h8
    have hlt : (j : Int) < row := by omega
    have hlt' : j < row := by omega
    have A6 := ar_succ j (by omega)
    have hil : i < (Hs HB i (.int .i64 row) s).length := by rw [Hs_len]; exact hi
    have hg : ∀ h : i < (Hs HB i (.int .i64 row) s).length, (Hs HB i (.int .i64 row) s)[i] = some [.sl 1 (bytesRows s.b), .bool s.ok, .int .i64 row] := fun h => by
      have := Hs_at hi (.int .i64 row) s
      rw [List.getElem?_eq_getElem h] at this
      exact Option.some.inj this
    unfold cellsP at hL hS
    rw [l_ppack_reader_cells_0, M_loop, ← l_ppack_reader_cells_0]
    cases hok : s.ok with
    | false =>
      rw [hok] at hL hS
      rw [if_neg (by simp)] at hL hS
      simp only [List.append_nil] at hL
      subst hL; subst hS
      rw [hok] at hg
      simp [b_ppack_reader_cells_0, h0, h3, h7, h8, hlt, hlt', hil, hg]
      exact hexit _ (by simp [h3])
    | true =>
      rw [hok] at hL hS
      rw [if_pos rfl] at hL hS
      have hC := cell34_eq HB i hi (.int .i64 row) rfl s hs
      obtain ⟨c, s1, hc⟩ : ∃ c s1, cellP s = (c, s1) := ⟨_, _, rfl⟩
      have hl := (cellP_len s).1
      rw [hc] at hC hL hS hl
      dsimp only at hC hL hS hl
      rw [hok] at hg
      have e7 : 2 * (acc.length + 1) * 48 ≤ 281474976710656 := by omega
      have hce : c.cells = [.int .i64 c.says, .int .i64 c.point, .int .u64 c.kept, .int .i64 c.verdict, .int .i64 c.err, .int .i64 c.limit] := rfl
      rw [hce] at hC
      simp [-arith, b_ppack_reader_cells_0, h0, h3, h7, h8, hlt, hlt', hil, hg, hC, A6, e7, lt_ppack_reader_cell]
      refine ih (j + 1) _ (acc ++ [c]) s1 (by omega) (by simp; omega) (by omega) (by rw [← hL]; simp) hS ?_ ?_ ?_ ?_ <;> simp [h0, h7, Ce.cells]

theorem cellsP34_eq (HB : Heap) (i : Nat) (hi : i < HB.length) (row : Nat) (hrow : row ≤ 1000) (s : RS) (hs : s.b.length ≤ 100000) :
    eval tbl noExt n_ppack_reader_cells [.ptr i 0] (Hs HB i (.int .i64 row) s) = some (.own 6 ((cellsP row s).1.map Ce.cells), Hs HB i (.int .i64 row) (cellsP row s).2) := by
  have hil : i < (Hs HB i (.int .i64 row) s).length := by rw [Hs_len]; exact hi
  have hg : ∀ h : i < (Hs HB i (.int .i64 row) s).length, (Hs HB i (.int .i64 row) s)[i] = some [.sl 1 (bytesRows s.b), .bool s.ok, .int .i64 row] := fun h => by
    have := Hs_at hi (.int .i64 row) s
    rw [List.getElem?_eq_getElem h] at this
    exact Option.some.inj this
  rw [eval_M rfl rfl t_ppack_reader_cells rfl]
  simp [c_ppack_reader_cells, hil, hg]
  refine cellsP34_loop HB i hi row hrow (fun r => r = some (.own 6 ((cellsP row s).1.map Ce.cells), Hs HB i (.int .i64 row) (cellsP row s).2)) _ _ _ ?_ row 0 _ [] s rfl (by simp) hs rfl rfl ?_ ?_ ?_ ?_
  · intro φ' h3
    simp [r_ppack_reader_cells_0, h3, Hs_len, tHs']
  all_goals simp

/-- So many numbers. -/
def numsP : Nat → RS → List Nat × RS
  | 0, s => ([], s)
  | k + 1, s => ((numP s).1 :: (numsP k (numP s).2).1, (numsP k (numP s).2).2)

theorem numsP_len : ∀ (k : Nat) (s : RS), (numsP k s).2.b.length ≤ s.b.length ∧ ((numsP k s).2.ok = true → s.ok = true) ∧ (numsP k s).1.length = k
  | 0, s => by simp [numsP]
  | k + 1, s => by
    have h1 := numP_len s
    have h2 := numsP_len k (numP s).2
    unfold numsP
    exact ⟨by dsimp only; omega, fun h => (h1.2 (h2.2.1 h)).1, by simp; exact h2.2.2⟩

/-- A site's state behind its depth. -/
def deepP (s : RS) (d : Nat) : RS := ⟨s.b, s.ok && decide (d ≤ 8)⟩

def siteP (s : RS) : Si × RS :=
  let k := numP s; let p := numP k.2; let d := numP p.2
  let w := numsP (min d.1 8) (deepP d.2 d.1)
  (⟨k.1, p.1, w.1.map Int.ofNat ++ List.replicate (8 - min d.1 8) 0, d.1⟩, w.2)

theorem siteP_ok (s : RS) : (siteP s).1.ok := by
  unfold siteP Si.ok
  have := (numsP_len (min (numP (numP (numP s).2).2).1 8) (deepP (numP (numP (numP s).2).2).2 (numP (numP (numP s).2).2).1)).2.2
  simp [this]; omega

theorem siteP_len (s : RS) : (siteP s).2.b.length ≤ s.b.length ∧ ((siteP s).2.ok = true → s.ok = true ∧ (siteP s).2.b.length < s.b.length) := by
  have h1 := numP_len s
  have h2 := numP_len (numP s).2
  have h3 := numP_len (numP (numP s).2).2
  have h4 := numsP_len (min (numP (numP (numP s).2).2).1 8) (deepP (numP (numP (numP s).2).2).2 (numP (numP (numP s).2).2).1)
  have h5 : (deepP (numP (numP (numP s).2).2).2 (numP (numP (numP s).2).2).1).b = (numP (numP (numP s).2).2).2.b := rfl
  rw [h5] at h4
  unfold siteP
  refine ⟨by dsimp only; omega, fun h => ?_⟩
  have e4 := h4.2.1 h
  simp only [deepP, Bool.and_eq_true] at e4
  have e3 := h3.2 e4.1; have e2 := h2.2 e3.1; have e1 := h1.2 e2.1
  exact ⟨e1.1, by dsimp only; omega⟩

theorem way_loop (HB : Heap) (i : Nat) (hi : i < HB.length) (row : V) (hrow : V.one row = true) (Q : Option (V × Heap) → Prop) (k : List Item) (kd pt dp n : Nat) (hn : n ≤ 8) (z : Option (List V)) (W : List Nat) (S : RS)
    (hexit : ∀ φ', Fr.get φ' 0 = .ptr i 0 → Fr.get φ' 2 = .ptr HB.length 0 → Fr.get φ' 3 = .ptr (HB.length + 1) 0 → Q (M (eval tbl noExt) k φ' (Hs HB i row S ++ [z, some (iv kd :: iv pt :: ((W.map fun w : Nat => iv (w : Int)) ++ List.replicate (8 - n) (iv 0) ++ [iv dp]))]))) :
    ∀ (m j : Nat) (φ : Fr) (acc : List Nat) (s : RS), m + j = n → acc.length = j → s.b.length ≤ 100000 → acc ++ (numsP m s).1 = W → (numsP m s).2 = S → Fr.get φ 0 = .ptr i 0 → Fr.get φ 2 = .ptr HB.length 0 → Fr.get φ 3 = .ptr (HB.length + 1) 0 → Fr.get φ 36 = .int .i64 n → Fr.get φ 37 = .int .i64 j →
      Q (M (eval tbl noExt) (.code l_ppack_reader_site_0 :: .blk 0 :: k) φ (Hs HB i row s ++ [z, some (iv kd :: iv pt :: ((acc.map fun w : Nat => iv (w : Int)) ++ List.replicate (8 - j) (iv 0) ++ [iv dp]))])) := by
  intro m
  induction m with
  | zero =>
    intro j φ acc s hj ha hs hW hS h0 h2 h3 h36 h37
    have hlt : ¬ (j : Int) < n := by omega
    have hlt' : ¬ j < n := by omega
    simp only [numsP, List.append_nil] at hW hS
    subst hW; subst hS
    rw [l_ppack_reader_site_0, M_loop]
    simp [b_ppack_reader_site_0, h0, h2, h3, h36, h37, hlt, hlt']
    have hjn : j = n := by omega
    subst hjn
    have := hexit [(38, .bool false), (0, .ptr i 0), (2, .ptr HB.length 0), (3, .ptr (HB.length + 1) 0), (36, .int .i64 j), (37, .int .i64 j)] (by simp) (by simp) (by simp)
    simpa using this
  | succ m ih =>
    intro j φ acc s hj ha hs hW hS h0 h2 h3 h36 h37
    have hlt : (j : Int) < n := by omega
    have hlt' : j < n := by omega
    have hj8 : (j : Int) < 8 := by omega
    have hj8' : j < 8 := by omega
    have A6 := ar_succ j (by omega)
    obtain ⟨v, s1, hv⟩ : ∃ v s1, numP s = (v, s1) := ⟨_, _, rfl⟩
    have hl := (numP_len s).1
    rw [hv] at hl
    dsimp only at hl
    have hN := numberX hi hrow hs hv
    unfold numsP at hW hS
    rw [hv] at hW hS
    dsimp only at hW hS
    obtain ⟨cs, hcs⟩ : ∃ cs, cs = iv kd :: iv pt :: ((acc.map fun w : Nat => iv (w : Int)) ++ List.replicate (8 - j) (iv 0) ++ [iv dp]) := ⟨_, rfl⟩
    have hcl : cs.length = 11 := by rw [hcs]; simp [ha]; omega
    have hset : cs.set (2 + j) (.int .i64 v) = iv kd :: iv pt :: (((acc ++ [v]).map fun w : Nat => iv (w : Int)) ++ List.replicate (8 - (j + 1)) (iv 0) ++ [iv dp]) := by
      rw [hcs, show 2 + j = j + 1 + 1 by omega, List.set_cons_succ, List.set_cons_succ]
      congr 2
      have hr : List.replicate (8 - j) (iv 0) = iv 0 :: List.replicate (8 - (j + 1)) (iv 0) := by rw [show 8 - j = (8 - (j + 1)) + 1 by omega]; rfl
      rw [hr, List.append_assoc, List.set_append_right _ _ (by simp [ha])]
      simp [ha]
    have h11 : 2 + j + 1 ≤ 11 := by omega
    have h11' : 2 + j < 11 := by omega
    rw [← hcs]
    rw [l_ppack_reader_site_0, M_loop, ← l_ppack_reader_site_0]
    simp [-arith, b_ppack_reader_site_0, h0, h2, h3, h36, h37, hlt, hlt', hN, A6, hj8, hj8', gHs1, sHs1, hcl, h11, h11', lt_ppack_left_number]
    rw [hset]
    refine ih (j + 1) _ (acc ++ [v]) s1 (by omega) (by simp [ha]) (by omega) (by rw [← hW]; simp) hS ?_ ?_ ?_ ?_ ?_ <;> simp [h0, h2, h3, h36]

theorem gHsI {HB : Heap} {i : Nat} (hi : i < HB.length) (row : V) (s : RS) (r : Heap) : (Hs HB i row s ++ r)[i]? = some (some [.sl 1 (bytesRows s.b), .bool s.ok, row]) := by
  rw [List.getElem?_append_left (by rw [Hs_len]; exact hi)]; exact Hs_at hi row s

theorem site34_eq (HB : Heap) (i : Nat) (hi : i < HB.length) (row : V) (hrow : V.one row = true) (s : RS) (hs : s.b.length ≤ 100000) : eval tbl noExt n_ppack_reader_site [.ptr i 0] (Hs HB i row s) = some (.agg (siteP s).1.cells, Hs HB i row (siteP s).2) := by
  have hok := siteP_ok s
  obtain ⟨v1, s1, h1⟩ : ∃ v1 s1, numP s = (v1, s1) := ⟨_, _, rfl⟩
  obtain ⟨v2, s2, h2⟩ : ∃ v1 s', numP s1 = (v1, s') := ⟨_, _, rfl⟩
  obtain ⟨v3, s3, h3⟩ : ∃ v1 s', numP s2 = (v1, s') := ⟨_, _, rfl⟩
  have l1 := (numP_len s).1
  have l2 := (numP_len s1).1
  have l3 := (numP_len s2).1
  rw [h1] at l1; rw [h2] at l2; rw [h3] at l3
  dsimp only at l1 l2 l3
  have n1 := numberX hi hrow hs h1
  have n2 := numberX hi hrow (by omega) h2
  have n3 := numberX hi hrow (by omega) h3
  obtain ⟨n, hn⟩ : ∃ n, n = min v3 8 := ⟨_, rfl⟩
  obtain ⟨W, S, hW⟩ : ∃ W S, numsP n (deepP s3 v3) = (W, S) := ⟨_, _, rfl⟩
  have hsite : siteP s = (⟨v1, v2, W.map Int.ofNat ++ List.replicate (8 - n) 0, v3⟩, S) := by
    unfold siteP
    simp only [h1, h2, h3, ← hn, hW]
  rw [hsite] at hok ⊢
  have emin : min (v3 : Int) 8 = (n : Int) := by rw [hn]; omega
  have hcells : (Si.mk v1 v2 (W.map Int.ofNat ++ List.replicate (8 - n) 0) v3).cells = iv v1 :: iv v2 :: ((W.map fun w : Nat => iv (w : Int)) ++ List.replicate (8 - n) (iv 0) ++ [iv v3]) := by
    simp [Si.cells, Function.comp_def]
  obtain ⟨fin, hfin⟩ : ∃ fin, fin = (Si.mk v1 v2 (W.map Int.ofNat ++ List.replicate (8 - n) 0) v3).cells := ⟨_, rfl⟩
  have q1 : fin.length = 11 := by rw [hfin]; exact Si.len hok
  have q3 : fin.map V.strip = fin := by rw [hfin]; exact Si.strip
  have q5 : fin.take 11 = fin := by rw [hfin]; exact Si.take hok
  have qu : ∀ n, V.underAll n fin = true := fun n => by rw [hfin]; exact Si.under n
  have qo : fin.all V.one = true := by rw [hfin]; exact Si.one
  have qs : ∀ a b c d e f g h i j k : V, setMany [a, b, c, d, e, f, g, h, i, j, k] 0 fin = fin := by rw [hfin]; exact h11 _ hok
  have gI := fun s r => gHsI hi row s r
  have sI : ∀ r, (Hs HB i row s3 ++ r).set i (some [.sl 1 (bytesRows s3.b), .bool (s3.ok && decide (v3 ≤ 8)), row]) = Hs HB i row (deepP s3 v3) ++ r := by
    intro r
    rw [List.set_append_left _ _ (by rw [Hs_len]; exact hi)]
    exact congrArg (· ++ r) (Hs_set HB i row s3 (deepP s3 v3))
  have hloop : ∀ z φ, Fr.get φ 0 = .ptr i 0 → Fr.get φ 2 = .ptr HB.length 0 → Fr.get φ 3 = .ptr (HB.length + 1) 0 → Fr.get φ 36 = .int .i64 n → Fr.get φ 37 = .int .i64 0 → z = [iv 0, iv 0, iv 0, iv 0, iv 0, iv 0, iv 0, iv 0, iv 0, iv 0, iv 0] →
      M (eval tbl noExt) [.code l_ppack_reader_site_0, .blk 0, .code r_ppack_reader_site_0, .fin [.cell 2 (some 11)] HB.length] φ (Hs HB i row (deepP s3 v3) ++ [some z, some [iv v1, iv v2, iv 0, iv 0, iv 0, iv 0, iv 0, iv 0, iv 0, iv 0, iv v3]]) = some (.agg fin, Hs HB i row S) := by
    intro z φ g0 g2 g3 g36 g37 hz
    refine way_loop HB i hi row hrow (fun r => r = some (.agg fin, Hs HB i row S)) _ v1 v2 v3 n (by omega) (some z) W S (fun φ' g0 g2 g3 => ?_) n 0 φ [] (deepP s3 v3) rfl rfl (by show s3.b.length ≤ _; omega) (by rw [hW]; rfl) (by rw [hW]) g0 g2 g3 g36 g37
    rw [← hcells, ← hfin, hz]
    simp [r_ppack_reader_site_0, g0, g2, g3, gHs0, gHs1, sHs0, sHs1, q1, q3, q5, qu, qo, qs, tHs]
  have e8 : ((v3 : Int) ≤ 8) = (v3 ≤ 8) := propext ⟨by omega, by omega⟩
  rw [← hfin]
  rw [eval_M rfl rfl t_ppack_reader_site rfl]
  cases hok3 : s3.ok with
  | false =>
    simp only [hok3, Bool.false_and] at sI
    simp [c_ppack_reader_site, n1, n2, n3, gHs0, gHs1, sHs0, sHs1, Hs_len, gI, hok3, e8, sI, emin, lt_ppack_left_number]
    refine hloop _ _ ?_ ?_ ?_ ?_ ?_ rfl <;> simp
  | true =>
    simp only [hok3, Bool.true_and] at sI
    simp [c_ppack_reader_site, n1, n2, n3, gHs0, gHs1, sHs0, sHs1, Hs_len, gI, hok3, e8, sI, emin, lt_ppack_left_number]
    refine hloop _ _ ?_ ?_ ?_ ?_ ?_ rfl <;> simp

end Go.AM.Spec

namespace Go.AM.Spec
set_option linter.unusedVariables false
set_option linter.unusedSimpArgs false
set_option maxHeartbeats 2000000
set_option maxRecDepth 10000

def rowsP : Nat → Nat → RS → (List Si × List (List Ce)) × RS
  | 0, _, s => (([], []), s)
  | k + 1, row, s => if s.ok = true then
      (((siteP s).1 :: (rowsP k row (cellsP row (siteP s).2).2).1.1, (cellsP row (siteP s).2).1 :: (rowsP k row (cellsP row (siteP s).2).2).1.2), (rowsP k row (cellsP row (siteP s).2).2).2)
    else (([], []), s)

def zeroMx : Mx := ⟨false, [], [], []⟩

def decP (b : List UInt8) : Mx × Bool :=
  let a := numP ⟨b, true⟩
  let c := numP a.2
  let base := cellsP (min c.1 17) c.2
  let k := numP base.2
  let r := rowsP k.1 (min c.1 17) k.2
  (⟨decide (a.1 = 1), base.1, r.1.1, r.1.2⟩, r.2.ok)

def decS (b : List UInt8) : Mx × Bool :=
  if b.length < 8 then (zeroMx, false)
  else if b.drop (b.length - 8) = sealS (sumN (b.take (b.length - 8))) then
    (if (decP (b.take (b.length - 8))).2 = true ∧ (decP (b.take (b.length - 8))).1.rightA = true ∧ encS (decP (b.take (b.length - 8))).1 = b then ((decP (b.take (b.length - 8))).1, true) else (zeroMx, false))
  else (zeroMx, false)

theorem rowsP_facts : ∀ (k row : Nat) (s : RS), row ≤ 17 → (rowsP k row s).1.1.length = (rowsP k row s).1.2.length ∧ (rowsP k row s).1.1.length ≤ s.b.length + 1 ∧ (∀ t ∈ (rowsP k row s).1.1, t.ok) ∧ ∀ r ∈ (rowsP k row s).1.2, r.length ≤ 17
  | 0, row, s, _ => by simp [rowsP]
  | k + 1, row, s, hrow => by
    unfold rowsP
    split
    · rename_i hok
      obtain ⟨s1, hs1⟩ : ∃ s1, s1 = (cellsP row (siteP s).2).2 := ⟨_, rfl⟩
      rw [← hs1]
      have h1 := siteP_len s
      have h2 := cellsP_len row (siteP s).2
      have ih := rowsP_facts k row s1 hrow
      obtain ⟨i1, i2, i3, i4⟩ := ih
      refine ⟨by simp [i1], ?_, ?_, ?_⟩
      · cases hok1 : s1.ok with
        | true =>
          have h3 := h1.2 (h2.2.1 (by rw [← hs1]; exact hok1))
          have : s1.b.length ≤ (siteP s).2.b.length := by rw [hs1]; exact h2.1
          simp; omega
        | false =>
          have : (rowsP k row s1).1.1 = [] := by
            cases k with
            | zero => rfl
            | succ k => unfold rowsP; rw [hok1, if_neg (by simp)]
          rw [this]; simp
      · intro t ht
        rcases List.mem_cons.1 ht with rfl | ht
        · exact siteP_ok s
        · exact i3 t ht
      · intro r hr
        rcases List.mem_cons.1 hr with rfl | hr
        · have := h2.2.2; omega
        · exact i4 r hr
    · simp

theorem numP_nat (s : RS) : (0 : Int) ≤ ((numP s).1 : Int) := by omega
theorem cellP_kept (s : RS) : 0 ≤ (cellP s).1.kept := by
  unfold cellP
  split
  · exact numP_nat _
  · split
    · exact Int.le_refl 0
    · exact Int.le_refl 0
theorem cellsP_kept : ∀ (k : Nat) (s : RS), ∀ c ∈ (cellsP k s).1, 0 ≤ c.kept
  | 0, s => by simp [cellsP]
  | k + 1, s => by
    unfold cellsP
    split
    · intro c hc
      rcases List.mem_cons.1 hc with rfl | hc
      · exact cellP_kept s
      · exact cellsP_kept k _ c hc
    · simp
theorem rowsP_kept : ∀ (k row : Nat) (s : RS), ∀ r ∈ (rowsP k row s).1.2, ∀ c ∈ r, 0 ≤ c.kept
  | 0, row, s => by simp [rowsP]
  | k + 1, row, s => by
    unfold rowsP
    split
    · intro r hr
      rcases List.mem_cons.1 hr with rfl | hr
      · exact cellsP_kept _ _
      · exact rowsP_kept k row _ r hr
    · simp

theorem decP_facts (b : List UInt8) (hb : b.length ≤ 90000) : (decP b).1.mid ∧ (∀ s ∈ (decP b).1.sites, s.ok) ∧ ((∀ c ∈ (decP b).1.base, 0 ≤ c.kept) ∧ ∀ r ∈ (decP b).1.rows, ∀ c ∈ r, 0 ≤ c.kept) := by
  unfold decP
  obtain ⟨a, ha⟩ : ∃ a, a = numP ⟨b, true⟩ := ⟨_, rfl⟩
  obtain ⟨c, hc⟩ : ∃ c, c = numP a.2 := ⟨_, rfl⟩
  obtain ⟨base, hbase⟩ : ∃ base, base = cellsP (min c.1 17) c.2 := ⟨_, rfl⟩
  obtain ⟨k, hk⟩ : ∃ k, k = numP base.2 := ⟨_, rfl⟩
  have l1 := (numP_len ⟨b, true⟩).1
  have l2 := (numP_len a.2).1
  have l3 := cellsP_len (min c.1 17) c.2
  have l4 := (numP_len base.2).1
  rw [← ha] at l1
  rw [← hc] at l2
  rw [← hbase] at l3
  rw [← hk] at l4
  have hr := rowsP_facts k.1 (min c.1 17) k.2 (by omega)
  have hkept := rowsP_kept k.1 (min c.1 17) k.2
  simp only [← ha, ← hc, ← hbase, ← hk]
  obtain ⟨r1, r2, r3, r4⟩ := hr
  dsimp only at l1
  refine ⟨?_, r3, by rw [hbase]; exact cellsP_kept _ _, hkept⟩
  by_cases h5 : (rowsP k.1 (min c.1 17) k.2).1.1.length ≤ 512
  · exact .inl ⟨by dsimp only; omega, h5, by dsimp only; omega, fun l hl => by have := r4 l hl; omega⟩
  · exact .inr ⟨by dsimp only; omega, by dsimp only; omega, by dsimp only; omega, by dsimp only; omega⟩

theorem n13e {s : Si} : s.cells.all V.plain = true := by simp [Si.cells, V.plain]

theorem bequal_eq (x y : List UInt8) (H : Heap) : eval tbl noExt n_bytes_Equal [.sl 1 (bytesRows x), .sl 1 (bytesRows y)] H = some (.bool (decide (x = y)), H) := by
  rw [eval_M rfl rfl t_bytes_Equal rfl]
  simp [c_bytes_Equal, rowsBytes_of]

/-- A list in a cell: nil as long as it is empty. -/
def cellL (k : Nat) : List (List V) → V
  | [] => .nils k
  | r => .own k r

def rc (s : RS) (row : Nat) : Option (List V) := some [.sl 1 (bytesRows s.b), .bool s.ok, .int .i64 row]

theorem dec_loop (row : Nat) (hrow : row ≤ 17) (k : Nat) (hk : k ≤ 1048576) (zc : List V) (bad bs : V) (Q : Option (V × Heap) → Prop) (ks : List Item) (b0 : V) (SS : List Si) (RR : List (List Ce)) (S : RS)
    (hexit : ∀ φ', Fr.get φ' 0 = b0 → Fr.get φ' 2 = .ptr 0 0 → Fr.get φ' 5 = .ptr 1 0 → Fr.get φ' 6 = .ptr 2 0 → Q (M (eval tbl noExt) ks φ' [some zc, rc S row, some [bad, bs, cellL 11 (SS.map Si.cells), cellL 1 (RR.map rowV)]])) :
    ∀ (m j : Nat) (φ : Fr) (ts : List Si) (rs : List (List Ce)) (s : RS), m + j = k → rs.length = ts.length → s.b.length ≤ 90000 → ts.length ≤ 90001 → (s.ok = true → ts.length + s.b.length ≤ 90000) → ts ++ (rowsP m row s).1.1 = SS → rs ++ (rowsP m row s).1.2 = RR → (rowsP m row s).2 = S →
      Fr.get φ 0 = b0 → Fr.get φ 2 = .ptr 0 0 → Fr.get φ 5 = .ptr 1 0 → Fr.get φ 6 = .ptr 2 0 → Fr.get φ 53 = .int .i64 k → Fr.get φ 54 = .int .i64 j →
      Q (M (eval tbl noExt) (.code l_pack_Decode_0 :: .blk 0 :: ks) φ [some zc, rc s row, some [bad, bs, cellL 11 (ts.map Si.cells), cellL 1 (rs.map rowV)]]) := by
  intro m
  induction m with
  | zero =>
    intro j φ ts rs s hj hlen hs ht hok hSS hRR hS h0 h2 h5 h6 h53 h54
    have hlt : ¬ (j : Int) < k := by omega
    have hlt' : ¬ j < k := by omega
    simp only [rowsP, List.append_nil] at hSS hRR hS
    subst hSS; subst hRR; subst hS
    rw [l_pack_Decode_0, M_loop]
    simp [b_pack_Decode_0, h0, h2, h5, h6, h53, h54, hlt, hlt']
    exact hexit _ (by simp [h0]) (by simp [h2]) (by simp [h5]) (by simp [h6])
  | succ m ih =>
    intro j φ ts rs s hj hlen hs ht hok hSS hRR hS h0 h2 h5 h6 h53 h54
    have hlt : (j : Int) < k := by omega
    have hlt' : j < k := by omega
    have A6 : arith .add .i64 (j : Int) 1 = some (.int .i64 ((j : Int) + 1)) := by
      show some (V.int .i64 (IntKind.i64.wrap _)) = _
      rw [w64 (by omega) (by omega)]
    unfold rowsP at hSS hRR hS
    rw [l_pack_Decode_0, M_loop, ← l_pack_Decode_0]
    cases hso : s.ok with
    | false =>
      rw [hso] at hSS hRR hS
      rw [if_neg (by simp)] at hSS hRR hS
      simp only [List.append_nil] at hSS hRR
      subst hSS; subst hRR; subst hS
      have hrc : rc s row = some [.sl 1 (bytesRows s.b), .bool false, .int .i64 row] := by rw [← hso]; rfl
      simp [b_pack_Decode_0, h0, h2, h5, h6, h53, h54, hlt, hlt', hrc]
      rw [← hrc]
      exact hexit _ (by simp [h0]) (by simp [h2]) (by simp [h5]) (by simp [h6])
    | true =>
      rw [hso] at hSS hRR hS
      rw [if_pos rfl] at hSS hRR hS
      have hok := hok hso
      obtain ⟨t, s1, hst⟩ : ∃ t s1, siteP s = (t, s1) := ⟨_, _, rfl⟩
      obtain ⟨r, s2, hcr⟩ : ∃ r s2, cellsP row s1 = (r, s2) := ⟨_, _, rfl⟩
      have l1 := siteP_len s
      have l2 := cellsP_len row s1
      have okt := siteP_ok s
      rw [hst] at l1 okt hSS hRR hS
      dsimp only at l1 okt hSS hRR hS
      rw [hcr] at l2 hSS hRR hS
      dsimp only at l2 hSS hRR hS
      have p1 := site34_eq [some zc, none, none] 1 (by simp) (.int .i64 row) rfl s (by omega)
      have p2 := cellsP34_eq [some zc, none, none] 1 (by simp) row (by omega) s1 (by omega)
      rw [hst] at p1
      rw [hcr] at p2
      have hH : ∀ s : RS, Hs [some zc, none, none] 1 (.int .i64 row) s = [some zc, rc s row, none] := fun s => rfl
      simp only [hH] at p1 p2
      have hrc : rc s row = some [.sl 1 (bytesRows s.b), .bool true, .int .i64 row] := by rw [← hso]; rfl
      rw [hrc] at p1
      have q1 := Si.len okt
      have q3 := Si.strip (s := t)
      have q5 := Si.take okt
      have qs := h11 t okt
      have qp := n13e (s := t)
      have e11 : 2 * (ts.length + 1) * 88 ≤ 281474976710656 := by omega
      have e12 : 2 * (rs.length + 1) * 24 ≤ 281474976710656 := by omega
      have hnext : ∀ φ', Fr.get φ' 0 = b0 → Fr.get φ' 2 = .ptr 0 0 → Fr.get φ' 5 = .ptr 1 0 → Fr.get φ' 6 = .ptr 2 0 → Fr.get φ' 53 = .int .i64 k → Fr.get φ' 54 = .int .i64 ((j + 1 : Nat) : Int) →
          Q (M (eval tbl noExt) (.code l_pack_Decode_0 :: .blk 0 :: ks) φ' [some zc, rc s2 row, some [bad, bs, .own 11 (ts.map Si.cells ++ [t.cells]), .own 1 (rs.map rowV ++ [rowV r])]]) := by
        intro φ' g0 g2 g5 g6 g53 g54
        have := ih (j + 1) φ' (ts ++ [t]) (rs ++ [r]) s2 (by omega) (by simp [hlen]) (by omega) (by simp; omega) (fun h => by
          have := l1.2 (l2.2.1 h)
          simp; omega) (by rw [← hSS]; simp) (by rw [← hRR]; simp) hS g0 g2 g5 g6 g53 g54
        have c1 : cellL 11 ((ts ++ [t]).map Si.cells) = .own 11 (ts.map Si.cells ++ [t.cells]) := by
          rw [List.map_append]
          cases ts <;> rfl
        have c2 : cellL 1 ((rs ++ [r]).map rowV) = .own 1 (rs.map rowV ++ [rowV r]) := by
          rw [List.map_append]
          cases rs <;> rfl
        rw [c1, c2] at this
        exact this
      cases ts with
      | nil =>
        have hr0 : rs = [] := List.eq_nil_of_length_eq_zero hlen
        subst hr0
        have c1 : cellL 11 (([] : List Si).map Si.cells) = .nils 11 := rfl
        have c2 : cellL 1 (([] : List (List Ce)).map rowV) = .nils 1 := rfl
        rw [c1, c2]
        simp [-arith, b_pack_Decode_0, h0, h2, h5, h6, h53, h54, hlt, hlt', A6, p1, p2, q1, q3, q5, qs, qp, lt_ppack_reader_site, lt_ppack_reader_cells, hrc]
        exact hnext _ (by simp [h0]) (by simp [h2]) (by simp [h5]) (by simp [h6]) (by simp [h53]) (by simp)
      | cons t0 ts =>
        obtain ⟨r0, rs', rfl⟩ : ∃ r0 rs', rs = r0 :: rs' := by
          cases rs with
          | nil => simp at hlen
          | cons r0 rs' => exact ⟨r0, rs', rfl⟩
        have c1 : cellL 11 ((t0 :: ts).map Si.cells) = .own 11 ((t0 :: ts).map Si.cells) := rfl
        have c2 : cellL 1 ((r0 :: rs').map rowV) = .own 1 ((r0 :: rs').map rowV) := rfl
        rw [c1, c2]
        obtain ⟨X, hX⟩ : ∃ X, X = (t0 :: ts).map Si.cells := ⟨_, rfl⟩
        obtain ⟨Y, hY⟩ : ∃ Y, Y = (r0 :: rs').map rowV := ⟨_, rfl⟩
        have hXl : X.length = (t0 :: ts).length := by rw [hX]; simp
        have hYl : Y.length = (r0 :: rs').length := by rw [hY]; simp
        rw [← hX, ← hY] at hnext ⊢
        rw [← hXl] at e11
        rw [← hYl] at e12
        simp [-arith, b_pack_Decode_0, h0, h2, h5, h6, h53, h54, hlt, hlt', A6, p1, p2, q1, q3, q5, qs, qp, e11, e12, lt_ppack_reader_site, lt_ppack_reader_cells, hrc]
        exact hnext _ (by simp [h0]) (by simp [h2]) (by simp [h5]) (by simp [h6]) (by simp [h53]) (by simp)

end Go.AM.Spec

namespace Go.AM.Spec
set_option linter.unusedVariables false
set_option linter.unusedSimpArgs false
set_option maxHeartbeats 2000000
set_option maxRecDepth 10000

theorem rows_take (b : List UInt8) (n : Nat) : List.take n (bytesRows b) = bytesRows (b.take n) := by unfold bytesRows; rw [List.map_take]
theorem rows_drop (b : List UInt8) (n : Nat) : List.drop n (List.take b.length (bytesRows b)) = bytesRows (b.drop n) := by
  rw [List.take_of_length_le (by rw [bytesRows_len]; exact Nat.le_refl _)]
  unfold bytesRows
  rw [List.map_drop]

theorem rows_drop' (b : List UInt8) (n : Nat) : List.drop n (bytesRows b) = bytesRows (b.drop n) := by unfold bytesRows; rw [List.map_drop]

def decV (p : Mx × Bool) : V := .tup [.agg p.1.cells, .bool p.2]

theorem Decode_eq (b : List UInt8) (hb : b.length ≤ 90000) : eval tbl noExt n_pack_Decode [.sl 1 (bytesRows b)] [] = some (decV (decS b), []) := by
  have hz : zeroMx.cells = [.bool false, .sl 6 [], .sl 11 [], .sl 1 []] := rfl
  unfold decS
  rw [eval_M rfl rfl t_pack_Decode rfl]
  by_cases a1 : b.length < 8
  · rw [if_pos a1]
    have a1' : IntKind.i64.wrap ((b.length : Int) - 8) < 0 := by rw [w64 (by omega) (by omega)]; omega
    simp [c_pack_Decode, bytesRows_len, a1', decV, hz]
  · rw [if_neg a1]
    obtain ⟨n, hn⟩ : ∃ n, n = b.length - 8 := ⟨_, rfl⟩
    rw [← hn]
    have e0 : IntKind.i64.wrap ((b.length : Int) - 8) = (n : Int) := by rw [w64 (by omega) (by omega)]; omega
    have e1 : ¬ (n : Int) < 0 := by omega
    have A0 : arith .sub .i64 (b.length : Int) 8 = some (.int .i64 (n : Int)) := by show some (V.int .i64 _) = _; rw [e0]
    have e2 : 0 ≤ (n : Int) ∧ (n : Int) ≤ b.length := by omega
    have e3 : (n : Int) ≤ b.length := by omega
    have e4 : n ≤ b.length := by omega
    have hS := sum34_eq (b.take n) (by simp; omega) []
    have hE := seal_eq (sumN (b.take n))
    rw [sumN_eq] at hE
    have hQ := bequal_eq (b.drop n) (sealS (sumN (b.take n))) []
    by_cases a2 : b.drop n = sealS (sumN (b.take n))
    · rw [if_pos a2]
      rw [decide_eq_true a2] at hQ
      obtain ⟨b', hb'⟩ : ∃ b', b' = b.take n := ⟨_, rfl⟩
      have hb'l : b'.length ≤ 90000 := by rw [hb']; simp; omega
      rw [← hb'] at hS hE hQ ⊢
      obtain ⟨f1, f2, f3⟩ := decP_facts b' hb'l
      -- the reads
      obtain ⟨v1, s1, h1⟩ : ∃ v s, numP ⟨b', true⟩ = (v, s) := ⟨_, _, rfl⟩
      obtain ⟨v2, s2, h2⟩ : ∃ v s, numP s1 = (v, s) := ⟨_, _, rfl⟩
      obtain ⟨row, hrow⟩ : ∃ row, row = min v2 17 := ⟨_, rfl⟩
      obtain ⟨base, s3, h3⟩ : ∃ v s, cellsP row s2 = (v, s) := ⟨_, _, rfl⟩
      obtain ⟨v4, s4, h4⟩ : ∃ v s, numP s3 = (v, s) := ⟨_, _, rfl⟩
      obtain ⟨SS, RR, S, h5⟩ : ∃ SS RR S, rowsP v4 row s4 = ((SS, RR), S) := ⟨_, _, _, rfl⟩
      obtain ⟨m, hm⟩ : ∃ m : Mx, m = ⟨decide (v1 = 1), base, SS, RR⟩ := ⟨_, rfl⟩
      have hdec : decP b' = (m, S.ok) := by
        unfold decP
        simp only [h1, h2, ← hrow, h3, h4, h5]
        rw [hm]
      have l1 := (numP_len ⟨b', true⟩).1
      have l2 := (numP_len s1).1
      have l3 := (cellsP_len row s2).1
      have l4 := (numP_len s3).1
      have k4 := numP_le s3
      have l3c := (cellsP_len row s2).2.2
      rw [h1] at l1; rw [h2] at l2; rw [h3] at l3 l3c; rw [h4] at l4 k4
      dsimp only at l1 l2 l3 l3c l4 k4
      rw [hdec] at f1 f2 f3 ⊢
      dsimp only at f1 f2 f3 ⊢
      have hEnc := Encode_eq m f1 f2 f3
      have hmc : m.cells = [.bool (decide (v1 = 1)), .sl 6 (base.map Ce.cells), .sl 11 (SS.map Si.cells), .sl 1 (RR.map rowV)] := by rw [hm]; rfl
      have zc : List V := []
      have n1 : ∀ z, eval tbl noExt n_ppack_left_number [.ptr 1 0] [some z, some [.sl 1 (bytesRows b'), .bool true, .int .i64 0]] = some (.int .i64 v1, [some z, rc s1 0]) := by
        intro z
        have := number_eq [some z, none] 1 (by simp) (.int .i64 0) rfl ⟨b', true⟩ (by dsimp only; omega)
        rw [h1] at this
        exact this
      have n2 : ∀ z c, eval tbl noExt n_ppack_left_number [.ptr 1 0] [some z, rc s1 0, c] = some (.int .i64 v2, [some z, some [.sl 1 (bytesRows s2.b), .bool s2.ok, .int .i64 0], c]) := by
        intro z c
        have := number_eq [some z, none, c] 1 (by simp) (.int .i64 0) rfl s1 (by omega)
        rw [h2] at this
        exact this
      have n3 : ∀ z c, eval tbl noExt n_ppack_reader_cells [.ptr 1 0] [some z, some [.sl 1 (bytesRows s2.b), .bool s2.ok, .int .i64 row], c] = some (.own 6 (base.map Ce.cells), [some z, rc s3 row, c]) := by
        intro z c
        have := cellsP34_eq [some z, none, c] 1 (by simp) row (by omega) s2 (by omega)
        rw [h3] at this
        exact this
      have n4 : ∀ z c, eval tbl noExt n_ppack_left_number [.ptr 1 0] [some z, rc s3 row, c] = some (.int .i64 v4, [some z, rc s4 row, c]) := by
        intro z c
        have := number_eq [some z, none, c] 1 (by simp) (.int .i64 row) rfl s3 (by omega)
        rw [h4] at this
        exact this
      have emin : min (v2 : Int) 17 = (row : Int) := by rw [hrow]; omega
      have hrc2 : rc s2 0 = some [.sl 1 (bytesRows s2.b), .bool s2.ok, .int .i64 0] := rfl
      have hrc2' : some [.sl 1 (bytesRows s2.b), .bool s2.ok, .int .i64 (row : Int)] = rc s2 row := rfl
      have e17 : (((v1 : Int) = 1) : Prop) = (v1 = 1) := propext ⟨by omega, by omega⟩
      simp [-arith, c_pack_Decode, bytesRows_len, e0, e1, e2, e3, e4, hS, hE, hQ, rows_take, rows_drop, rows_drop', A0, ← hb', n1, n2, n3, n4, emin, lt_pack_Sum, lt_pack_seal, lt_bytes_Equal, lt_ppack_left_number, lt_ppack_reader_cells]
      have hbad : ((decide ((v1 : Int) = 1)) : Bool) = decide (v1 = 1) := by simp [e17]
      refine dec_loop row (by omega) v4 k4 _ _ _ (fun r => r = some (decV (if S.ok = true ∧ m.rightA = true ∧ encS m = b then (m, true) else (zeroMx, false)), [])) _ (.sl 1 (bytesRows b)) SS RR S ?_ v4 0 _ [] [] s4 rfl rfl (by omega) (by simp) (by intro _; simp; omega) (by rw [h5]; rfl) (by rw [h5]; rfl) (by rw [h5]) ?_ ?_ ?_ ?_ ?_ ?_
      · intro φ' g0 g2 g5 g6
        obtain ⟨LX, hLX⟩ : ∃ LX, LX = SS.map Si.cells := ⟨_, rfl⟩
        obtain ⟨LY, hLY⟩ : ∃ LY, LY = RR.map rowV := ⟨_, rfl⟩
        rw [← hLX, ← hLY] at hmc ⊢
        have cX : cellL 11 LX = .own 11 LX ∨ (cellL 11 LX = .nils 11 ∧ LX = []) := by cases LX <;> simp [cellL]
        have cY : cellL 1 LY = .own 1 LY ∨ (cellL 1 LY = .nils 1 ∧ LY = []) := by cases LY <;> simp [cellL]
        rw [hmc] at hEnc
        have hbb := bequal_eq (encS m) b []
        have hfin : ∀ X Y : V, (X = .own 11 LX ∨ (X = .nils 11 ∧ LX = [])) → (Y = .own 1 LY ∨ (Y = .nils 1 ∧ LY = [])) →
            M (eval tbl noExt) [.code r_pack_Decode_0, .fin [.cell 2 (some 4), .t 3] 0] φ' [some [.bool false, .own 6 [], .own 11 [], .own 1 []], rc S row, some [.bool (decide (v1 = 1)), .own 6 (base.map Ce.cells), X, Y]] =
              some (decV (if S.ok = true ∧ m.rightA = true ∧ encS m = b then (m, true) else (zeroMx, false)), []) := by
          intro X Y hX hY
          have hrcS : rc S row = some [.sl 1 (bytesRows S.b), .bool S.ok, .int .i64 row] := rfl
          have hRHS : ∀ p : Mx × Bool, decV p = .tup [.agg p.1.cells, .bool p.2] := fun _ => rfl
          unfold encV at hEnc
          rcases hX with rfl | ⟨rfl, hX0⟩ <;> rcases hY with rfl | ⟨rfl, hY0⟩
          all_goals (try rw [hX0] at hEnc hmc)
          all_goals (try rw [hY0] at hEnc hmc)
          all_goals
            cases hA : m.rightA with
            | false =>
              rw [hA, if_neg (by simp)] at hEnc
              rw [if_neg (by simp)]
              cases hso : S.ok <;> rw [hso] at hrcS <;> simp [r_pack_Decode_0, g0, g2, g5, g6, hEnc, hrcS, hRHS, hz, lt_pack_Encode]
            | true =>
              rw [hA, if_pos rfl] at hEnc
              cases hso : S.ok with
              | false =>
                rw [hso] at hrcS
                rw [if_neg (by simp)]
                simp [r_pack_Decode_0, g0, g2, g5, g6, hEnc, hrcS, hRHS, hz, lt_pack_Encode]
              | true =>
                rw [hso] at hrcS
                by_cases hb2 : encS m = b
                · rw [if_pos ⟨rfl, rfl, hb2⟩]
                  rw [decide_eq_true hb2] at hbb
                  simp [r_pack_Decode_0, g0, g2, g5, g6, hEnc, hrcS, hRHS, hz, hbb, hmc, lt_pack_Encode, lt_bytes_Equal]
                · rw [if_neg (by rintro ⟨_, _, h⟩; exact hb2 h)]
                  rw [decide_eq_false hb2] at hbb
                  simp [r_pack_Decode_0, g0, g2, g5, g6, hEnc, hrcS, hRHS, hz, hbb, lt_pack_Encode, lt_bytes_Equal]
        have := hfin (cellL 11 LX) (cellL 1 LY) cX cY
        rw [hbad]
        exact this
      all_goals simp
    · rw [if_neg a2]
      rw [decide_eq_false a2] at hQ
      simp [-arith, A0, c_pack_Decode, bytesRows_len, e1, e2, e3, e4, hS, hE, hQ, rows_take, rows_drop, rows_drop', lt_pack_Sum, lt_pack_seal, lt_bytes_Equal, decV, hz]

end Go.AM.Spec

namespace Go.AM.Spec
set_option linter.unusedVariables false
set_option linter.unusedSimpArgs false
set_option maxHeartbeats 1000000
set_option maxRecDepth 10000

def numR (s : RS) : Nat × RS := match takeP 0 0 s.b with
  | some (n, r) => if s.ok = true ∧ n ≤ 1048576 then (n, ⟨r, true⟩) else (0, ⟨s.b, false⟩)
  | none => (0, ⟨s.b, false⟩)

theorem numR_len (s : RS) : (numR s).2.b.length ≤ s.b.length ∧ ((numR s).2.ok = true → s.ok = true ∧ (numR s).2.b.length < s.b.length) := by
  unfold numR
  split
  · rename_i n r h
    have := takeP_len _ _ _ _ _ h
    split
    · rename_i h1
      exact ⟨Nat.le_of_lt this, fun _ => ⟨h1.1, this⟩⟩
    · exact ⟨Nat.le_refl _, fun h => by cases h⟩
  · exact ⟨Nat.le_refl _, fun h => by cases h⟩

theorem numR_le (s : RS) : (numR s).1 ≤ 1048576 := by
  unfold numR
  split
  · split
    · rename_i h; exact h.2
    · simp
  · simp

/-- The reader's block. -/
def rcR (s : RS) : Option (List V) := some [.sl 1 (bytesRows s.b), .bool (!s.ok)]

theorem refTake34_eq (z : Option (List V)) (T : Heap) (s : RS) (hs : s.b.length ≤ 100000) : eval tbl noExt n_pflotsamref34_bytes_take [.ptr 1 0] (z :: rcR s :: T) = some (.int .i64 (numR s).1, z :: rcR (numR s).2 :: T) := by
  have hT := refTake_eq s.b hs []
  have hrc : rcR s = some [.sl 1 (bytesRows s.b), .bool (!s.ok)] := rfl
  rw [hrc]
  rw [eval_M rfl rfl t_pflotsamref34_bytes_take rfl]
  unfold numR
  cases hp : takeP 0 0 s.b with
  | none =>
    rw [hp] at hT
    simp only [takeV] at hT
    cases hok : s.ok <;> simp [c_pflotsamref34_bytes_take, hT, lt_flotsamref03_TakeUint, rcR]
  | some p =>
    obtain ⟨n, r⟩ := p
    rw [hp] at hT
    simp only [takeV] at hT
    cases hok : s.ok with
    | false => simp [c_pflotsamref34_bytes_take, hT, lt_flotsamref03_TakeUint, rcR]
    | true =>
      by_cases hn : n ≤ 1048576
      · have hn' : ¬ (1048576 : Int) < n := by omega
        have hn'' : ¬ 1048576 < n := by omega
        have e : IntKind.i64.wrap (n : Int) = (n : Int) := by rw [w64 (by omega) (by omega)]
        simp [c_pflotsamref34_bytes_take, hT, lt_flotsamref03_TakeUint, rcR, hn, hn', hn'', e]
      · have hn' : (1048576 : Int) < n := by omega
        have hn'' : 1048576 < n := by omega
        simp [c_pflotsamref34_bytes_take, hT, lt_flotsamref03_TakeUint, rcR, hn, hn', hn'']

theorem refTakeX {s s' : RS} {v : Nat} (hs : s.b.length ≤ 100000) (h : numR s = (v, s')) (z m : Option (List V)) (T : Heap) : eval tbl noExt n_pflotsamref34_bytes_take [.ptr 1 0] (z :: rcR s :: m :: T) = some (.int .i64 v, z :: rcR s' :: m :: T) := by
  rw [refTake34_eq z (m :: T) s hs, h]

theorem refTakeX2 {s s' : RS} {v : Nat} (hs : s.b.length ≤ 100000) (h : numR s = (v, s')) (z : Option (List V)) (T : Heap) : eval tbl noExt n_pflotsamref34_bytes_take [.ptr 1 0] (z :: rcR s :: T) = some (.int .i64 v, z :: rcR s' :: T) := by
  rw [refTake34_eq z T s hs, h]

def cellR (s : RS) : Ce × RS :=
  if (numR s).1 = 1 then
    (⟨1, (numR (numR s).2).1, (numR (numR (numR s).2).2).1, (numR (numR (numR (numR s).2).2).2).1, (numR (numR (numR (numR (numR s).2).2).2).2).1, 0⟩, (numR (numR (numR (numR (numR s).2).2).2).2).2)
  else if (numR s).1 = 2 then (⟨2, 0, 0, 0, 0, (numR (numR s).2).1⟩, (numR (numR s).2).2)
  else (⟨(numR s).1, 0, 0, 0, 0, 0⟩, (numR s).2)

theorem cellR_len (s : RS) : (cellR s).2.b.length ≤ s.b.length ∧ ((cellR s).2.ok = true → s.ok = true ∧ (cellR s).2.b.length < s.b.length) := by
  have h1 := numR_len s
  have h2 := numR_len (numR s).2
  have h3 := numR_len (numR (numR s).2).2
  have h4 := numR_len (numR (numR (numR s).2).2).2
  have h5 := numR_len (numR (numR (numR (numR s).2).2).2).2
  unfold cellR
  split
  · exact ⟨by dsimp only; omega, fun h => by
      have e4 := h5.2 h; have e3 := h4.2 e4.1; have e2 := h3.2 e3.1; have e1 := h2.2 e2.1; have e0 := h1.2 e1.1
      exact ⟨e0.1, by dsimp only; omega⟩⟩
  · split
    · exact ⟨by dsimp only; omega, fun h => by
        have e1 := h2.2 h; have e0 := h1.2 e1.1
        exact ⟨e0.1, by dsimp only; omega⟩⟩
    · exact h1

def cellsR' : Nat → RS → List Ce × RS
  | 0, s => ([], s)
  | k + 1, s => if s.ok = true then ((cellR s).1 :: (cellsR' k (cellR s).2).1, (cellsR' k (cellR s).2).2) else ([], s)

theorem cellsR'_len : ∀ (k : Nat) (s : RS), (cellsR' k s).2.b.length ≤ s.b.length ∧ ((cellsR' k s).2.ok = true → s.ok = true) ∧ (cellsR' k s).1.length ≤ k
  | 0, s => by simp [cellsR']
  | k + 1, s => by
    have h1 := cellR_len s
    have h2 := cellsR'_len k (cellR s).2
    unfold cellsR'
    split
    · exact ⟨by dsimp only; omega, fun h => (h1.2 (h2.2.1 h)).1, by simp; exact h2.2.2⟩
    · exact ⟨Nat.le_refl _, fun h => h, by simp⟩

theorem cellsR34_loop (row : Nat) (hrow : row ≤ 1000) (z m : Option (List V)) (Q : Option (V × Heap) → Prop) (k : List Item) (L : List Ce) (S : RS) (T0 : Heap) (hexit : ∀ φ' r, Fr.get φ' 5 = .own 6 (L.map Ce.cells) → Q (M (eval tbl noExt) k φ' (z :: rcR S :: m :: (T0 ++ r)))) :
    ∀ (n j : Nat) (φ : Fr) (acc : List Ce) (s : RS) (r : Heap), n + j = row → acc.length ≤ j → s.b.length ≤ 100000 → acc ++ (cellsR' n s).1 = L → (cellsR' n s).2 = S → Fr.get φ 0 = .ptr 1 0 → Fr.get φ 1 = .int .i64 row → Fr.get φ 5 = .own 6 (acc.map Ce.cells) → Fr.get φ 6 = .int .i64 j →
      Q (M (eval tbl noExt) (.code l_pflotsamref34_bytes_cells_0 :: .blk 0 :: k) φ (z :: rcR s :: m :: (T0 ++ r))) := by
  intro n
  induction n with
  | zero =>
    intro j φ acc s r hj ha hs hL hS h0 h1 h5 h6
    have hlt : ¬ (j : Int) < row := by omega
    have hlt' : ¬ j < row := by omega
    simp only [cellsR', List.append_nil] at hL hS
    subst hL; subst hS
    rw [l_pflotsamref34_bytes_cells_0, M_loop]
    simp [b_pflotsamref34_bytes_cells_0, h0, h1, h5, h6, hlt, hlt']
    exact hexit _ _ (by simp [h5])
  | succ n ih =>
    intro j φ acc s r hj ha hs hL hS h0 h1 h5 h6
    have hlt : (j : Int) < row := by omega
    have hlt' : j < row := by omega
    have A6 := ar_succ j (by omega)
    have hrc : rcR s = some [.sl 1 (bytesRows s.b), .bool (!s.ok)] := rfl
    unfold cellsR' at hL hS
    rw [l_pflotsamref34_bytes_cells_0, M_loop, ← l_pflotsamref34_bytes_cells_0]
    cases hok : s.ok with
    | false =>
      rw [hok] at hL hS hrc
      rw [if_neg (by simp)] at hL hS
      simp only [List.append_nil] at hL
      subst hL; subst hS
      simp [b_pflotsamref34_bytes_cells_0, h0, h1, h5, h6, hlt, hlt', hrc]
      rw [show (some [V.sl 1 (bytesRows s.b), V.bool true]) = rcR s by rw [hrc]; rfl]
      exact hexit _ _ (by simp [h5])
    | true =>
      rw [hok] at hL hS hrc
      rw [if_pos rfl] at hL hS
      have hnext : ∀ φ' (c : Option (List V)), Fr.get φ' 0 = .ptr 1 0 → Fr.get φ' 1 = .int .i64 row → Fr.get φ' 5 = .own 6 (acc.map Ce.cells ++ [(cellR s).1.cells]) → Fr.get φ' 6 = .int .i64 ((j + 1 : Nat) : Int) →
          Q (M (eval tbl noExt) (.code l_pflotsamref34_bytes_cells_0 :: .blk 0 :: k) φ' (z :: rcR (cellR s).2 :: m :: (T0 ++ (r ++ [c])))) := by
        intro φ' c g0 g1 g5 g6
        have hl := (cellR_len s).1
        exact ih (j + 1) φ' (acc ++ [(cellR s).1]) (cellR s).2 (r ++ [c]) (by omega) (by simp; omega) (by omega) (by rw [← hL]; simp) hS g0 g1 (by rw [g5]; simp) g6
      unfold cellR at hnext
      obtain ⟨v1, s1, h1n⟩ : ∃ v1 s1, numR s = (v1, s1) := ⟨_, _, rfl⟩
      obtain ⟨v2, s2, h2n⟩ : ∃ v1 s', numR s1 = (v1, s') := ⟨_, _, rfl⟩
      obtain ⟨v3, s3, h3n⟩ : ∃ v1 s', numR s2 = (v1, s') := ⟨_, _, rfl⟩
      obtain ⟨v4, s4, h4n⟩ : ∃ v1 s', numR s3 = (v1, s') := ⟨_, _, rfl⟩
      obtain ⟨v5, s5, h5n⟩ : ∃ v1 s', numR s4 = (v1, s') := ⟨_, _, rfl⟩
      have l1 := (numR_len s).1
      have l2 := (numR_len s1).1
      have l3 := (numR_len s2).1
      have l4 := (numR_len s3).1
      have b3 := numR_le s2
      rw [h1n] at l1; rw [h2n] at l2; rw [h3n] at l3 b3; rw [h4n] at l4
      dsimp only at l1 l2 l3 l4 b3
      have n1 := refTakeX hs h1n
      simp only [Bool.not_true] at hrc
      rw [hrc] at n1
      have n2 := refTakeX (by omega) h2n
      have n3 := refTakeX (by omega) h3n
      have n4 := refTakeX (by omega) h4n
      have n5 := refTakeX (by omega) h5n
      have e3 : IntKind.u64.wrap (v3 : Int) = (v3 : Int) := by rw [IntKind.wrap_u64]; omega
      have e7 : 2 * (acc.length + 1) * 48 ≤ 281474976710656 := by omega
      obtain ⟨T1, hT1⟩ : ∃ T1, T1 = T0 ++ r := ⟨_, rfl⟩
      have hT2 : ∀ c : Option (List V), T0 ++ (r ++ [c]) = T1 ++ [c] := fun c => by rw [hT1]; simp
      simp only [h1n, h2n, h3n, h4n, h5n, hT2] at hnext
      rw [← hT1]
      by_cases a1 : v1 = 1
      · rw [if_pos a1] at hnext
        subst a1
        simp only [show ((1 : Nat) : Int) = 1 from rfl] at n1
        simp [-arith, b_pflotsamref34_bytes_cells_0, h0, h1, h5, h6, hlt, hlt', hrc, n1, n2, n3, n4, n5, e3, e7, A6, get0, set0, lt_pflotsamref34_bytes_take]
        refine hnext _ _ ?_ ?_ ?_ ?_ <;> simp [h0, h1, Ce.cells]
      · rw [if_neg a1] at hnext
        have a1' : ¬ (v1 : Int) = 1 := by omega
        by_cases a2 : v1 = 2
        · rw [if_pos a2] at hnext
          subst a2
          simp only [show ((2 : Nat) : Int) = 2 from rfl] at n1
          simp [-arith, b_pflotsamref34_bytes_cells_0, h0, h1, h5, h6, hlt, hlt', hrc, n1, n2, e7, A6, get0, set0, lt_pflotsamref34_bytes_take]
          refine hnext _ _ ?_ ?_ ?_ ?_ <;> simp [h0, h1, Ce.cells]
        · rw [if_neg a2] at hnext
          have a2' : ¬ (v1 : Int) = 2 := by omega
          simp [-arith, b_pflotsamref34_bytes_cells_0, h0, h1, h5, h6, hlt, hlt', hrc, n1, a1, a2, a1', a2', e7, A6, get0, set0, lt_pflotsamref34_bytes_take]
          refine hnext _ _ ?_ ?_ ?_ ?_ <;> simp [h0, h1, Ce.cells]

theorem cellsR34_eq (row : Nat) (hrow : row ≤ 1000) (z m : Option (List V)) (T : Heap) (s : RS) (hs : s.b.length ≤ 100000) :
    eval tbl noExt n_pflotsamref34_bytes_cells [.ptr 1 0, .int .i64 row] (z :: rcR s :: m :: T) = some (.own 6 ((cellsR' row s).1.map Ce.cells), z :: rcR (cellsR' row s).2 :: m :: T) := by
  rw [eval_M rfl rfl t_pflotsamref34_bytes_cells rfl]
  simp [c_pflotsamref34_bytes_cells]
  have := cellsR34_loop row hrow z m (fun r => r = some (.own 6 ((cellsR' row s).1.map Ce.cells), z :: rcR (cellsR' row s).2 :: m :: T)) [.code r_pflotsamref34_bytes_cells_0, .fin [.t 4] (T.length + 1 + 1 + 1)] _ _ T ?_ row 0 [(6, .int .i64 0), (5, .own 6 []), (4, .own 6 []), (0, .ptr 1 0), (1, .int .i64 row)] [] s [] rfl (by simp) hs rfl rfl ?_ ?_ ?_ ?_
  · simpa using this
  · intro φ' r h5
    simp [r_pflotsamref34_bytes_cells_0, h5]
  all_goals simp

end Go.AM.Spec

namespace Go.AM.Spec
set_option linter.unusedVariables false
set_option linter.unusedSimpArgs false
set_option maxHeartbeats 2000000
set_option maxRecDepth 10000

def numsR : Nat → RS → List Nat × RS
  | 0, s => ([], s)
  | k + 1, s => ((numR s).1 :: (numsR k (numR s).2).1, (numsR k (numR s).2).2)

theorem numsR_len : ∀ (k : Nat) (s : RS), (numsR k s).2.b.length ≤ s.b.length ∧ ((numsR k s).2.ok = true → s.ok = true) ∧ (numsR k s).1.length = k
  | 0, s => by simp [numsR]
  | k + 1, s => by
    have h1 := numR_len s
    have h2 := numsR_len k (numR s).2
    unfold numsR
    exact ⟨by dsimp only; omega, fun h => (h1.2 (h2.2.1 h)).1, by simp; exact h2.2.2⟩

def siteOf (kd pt dp : Nat) (w : List Nat) : Si := ⟨kd, pt, w.map Int.ofNat ++ List.replicate (8 - dp) 0, dp⟩

def rowsR : Nat → Nat → RS → Option ((List Si × List (List Ce)) × RS)
  | 0, _, s => some (([], []), s)
  | k + 1, row, s => if s.ok = true then
      (if 8 < (numR (numR (numR s).2).2).1 then none
      else match rowsR k row (cellsR' row (numsR (numR (numR (numR s).2).2).1 (numR (numR (numR s).2).2).2).2).2 with
        | none => none
        | some x => some ((siteOf (numR s).1 (numR (numR s).2).1 (numR (numR (numR s).2).2).1 (numsR (numR (numR (numR s).2).2).1 (numR (numR (numR s).2).2).2).1 :: x.1.1, (cellsR' row (numsR (numR (numR (numR s).2).2).1 (numR (numR (numR s).2).2).2).2).1 :: x.1.2), x.2))
    else some (([], []), s)

def mkR (bad : Bool) (base : List Ce) : Option ((List Si × List (List Ce)) × RS) → Option Mx
  | none => none
  | some r => some ⟨bad, base, r.1.1, r.1.2⟩

def decR (l : List UInt8) : Option Mx :=
  if 16 < (numR (numR ⟨l, true⟩).2).1 then none
  else mkR (decide ((numR ⟨l, true⟩).1 = 1)) (cellsR' (numR (numR ⟨l, true⟩).2).1 (numR (numR ⟨l, true⟩).2).2).1
    (rowsR (numR (cellsR' (numR (numR ⟨l, true⟩).2).1 (numR (numR ⟨l, true⟩).2).2).2).1 (numR (numR ⟨l, true⟩).2).1 (numR (cellsR' (numR (numR ⟨l, true⟩).2).1 (numR (numR ⟨l, true⟩).2).2).2).2)

def finR (l : List UInt8) : Option Mx → Mx × Bool
  | none => (zeroMx, false)
  | some m => if m.rightA = true ∧ encS m = l then (m, true) else (zeroMx, false)

def decRS (l : List UInt8) : Mx × Bool := finR l (decR l)

theorem siteOf_ok (kd pt dp : Nat) (w : List Nat) (hd : dp ≤ 8) (hw : w.length = dp) : (siteOf kd pt dp w).ok := by
  unfold siteOf Si.ok
  simp [hw]; omega

theorem wayR_loop (z m : Option (List V)) (T : Heap) (Q : Option (V × Heap) → Prop) (k : List Item) (kd pt dp : Nat) (hdp : dp ≤ 8) (W : List Nat) (S : RS) (v0 v2 v5 v6 v7 v8 : V)
    (hexit : ∀ φ', Fr.get φ' 0 = v0 → Fr.get φ' 2 = v2 → Fr.get φ' 4 = .ptr 1 0 → Fr.get φ' 5 = v5 → Fr.get φ' 6 = v6 → Fr.get φ' 7 = v7 → Fr.get φ' 8 = v8 → Fr.get φ' 9 = .ptr (T.length + 1 + 1 + 1) 0 → Q (M (eval tbl noExt) k φ' (z :: rcR S :: m :: (T ++ [some (iv kd :: iv pt :: ((W.map fun w : Nat => iv (w : Int)) ++ List.replicate (8 - dp) (iv 0) ++ [iv dp]))])))) :
    ∀ (n j : Nat) (φ : Fr) (acc : List Nat) (s : RS), n + j = dp → acc.length = j → s.b.length ≤ 100000 → acc ++ (numsR n s).1 = W → (numsR n s).2 = S → Fr.get φ 0 = v0 → Fr.get φ 2 = v2 → Fr.get φ 4 = .ptr 1 0 → Fr.get φ 5 = v5 → Fr.get φ 6 = v6 → Fr.get φ 7 = v7 → Fr.get φ 8 = v8 → Fr.get φ 9 = .ptr (T.length + 1 + 1 + 1) 0 → Fr.get φ 10 = .int .i64 j →
      Q (M (eval tbl noExt) (.code l_flotsamref34_Decode_0 :: .blk 2 :: k) φ (z :: rcR s :: m :: (T ++ [some (iv kd :: iv pt :: ((acc.map fun w : Nat => iv (w : Int)) ++ List.replicate (8 - j) (iv 0) ++ [iv dp]))]))) := by
  intro n
  induction n with
  | zero =>
    intro j φ acc s hj ha hs hW hS h0 h2 h4 h5 h6 h7 h8 h9 h10
    have hlt : ¬ (j : Int) < dp := by omega
    have hlt' : ¬ j < dp := by omega
    simp only [numsR, List.append_nil] at hW hS
    subst hW; subst hS
    have hjn : j = dp := by omega
    obtain ⟨cs, hcs⟩ : ∃ cs, cs = iv kd :: iv pt :: ((acc.map fun w : Nat => iv (w : Int)) ++ List.replicate (8 - j) (iv 0) ++ [iv dp]) := ⟨_, rfl⟩
    have hcl : cs.length = 11 := by rw [hcs]; simp [ha]; omega
    have hc10 : ∀ h : 10 < cs.length, cs[10] = iv dp := fun h => by
      have : cs[10]? = some (iv dp) := by
        rw [hcs, List.getElem?_cons_succ, List.getElem?_cons_succ, List.getElem?_append_right (by simp [ha]; omega)]
        simp [ha, show 8 - (j + (8 - j)) = 0 by omega]
      rw [List.getElem?_eq_getElem h] at this
      exact Option.some.inj this
    rw [← hcs]
    rw [l_flotsamref34_Decode_0, M_loop]
    simp [b_flotsamref34_Decode_0, h0, h2, h4, h5, h6, h7, h8, h9, h10, hlt, hlt', get0, hcl, hc10]
    have := fun φ' => hexit φ'
    rw [← hjn, hcs] at *
    refine this _ ?_ ?_ ?_ ?_ ?_ ?_ ?_ ?_ <;> simp [h0, h2, h4, h5, h6, h7, h8, h9]
  | succ n ih =>
    intro j φ acc s hj ha hs hW hS h0 h2 h4 h5 h6 h7 h8 h9 h10
    have hlt : (j : Int) < dp := by omega
    have hlt' : j < dp := by omega
    have hj8 : (j : Int) < 8 := by omega
    have hj8' : j < 8 := by omega
    have A6 := ar_succ j (by omega)
    obtain ⟨v, s1, hv⟩ : ∃ v s1, numR s = (v, s1) := ⟨_, _, rfl⟩
    have hl := (numR_len s).1
    rw [hv] at hl
    dsimp only at hl
    have hN := refTakeX hs hv
    unfold numsR at hW hS
    rw [hv] at hW hS
    dsimp only at hW hS
    obtain ⟨cs, hcs⟩ : ∃ cs, cs = iv kd :: iv pt :: ((acc.map fun w : Nat => iv (w : Int)) ++ List.replicate (8 - j) (iv 0) ++ [iv dp]) := ⟨_, rfl⟩
    have hcl : cs.length = 11 := by rw [hcs]; simp [ha]; omega
    have hc10 : ∀ h : 10 < cs.length, cs[10] = iv dp := fun h => by
      have : cs[10]? = some (iv dp) := by
        rw [hcs, List.getElem?_cons_succ, List.getElem?_cons_succ, List.getElem?_append_right (by simp [ha]; omega)]
        simp [ha, show 8 - (j + (8 - j)) = 0 by omega]
      rw [List.getElem?_eq_getElem h] at this
      exact Option.some.inj this
    have hset : cs.set (2 + j) (.int .i64 v) = iv kd :: iv pt :: (((acc ++ [v]).map fun w : Nat => iv (w : Int)) ++ List.replicate (8 - (j + 1)) (iv 0) ++ [iv dp]) := by
      rw [hcs, show 2 + j = j + 1 + 1 by omega, List.set_cons_succ, List.set_cons_succ]
      congr 2
      have hr : List.replicate (8 - j) (iv 0) = iv 0 :: List.replicate (8 - (j + 1)) (iv 0) := by rw [show 8 - j = (8 - (j + 1)) + 1 by omega]; rfl
      rw [hr, List.append_assoc, List.set_append_right _ _ (by simp [ha])]
      simp [ha]
    have h11 : 2 + j + 1 ≤ 11 := by omega
    have h11' : 2 + j < 11 := by omega
    rw [← hcs]
    rw [l_flotsamref34_Decode_0, M_loop, ← l_flotsamref34_Decode_0]
    simp [-arith, b_flotsamref34_Decode_0, h0, h2, h4, h5, h6, h7, h8, h9, h10, hlt, hlt', hN, A6, hj8, hj8', get0, set0, hcl, hc10, h11, h11', lt_pflotsamref34_bytes_take]
    rw [hset]
    refine ih (j + 1) _ (acc ++ [v]) s1 (by omega) (by simp [ha]) (by omega) (by rw [← hW]; simp) hS ?_ ?_ ?_ ?_ ?_ ?_ ?_ ?_ ?_ <;> simp [h0, h2, h4, h5, h6, h7, h8, h9]

theorem decR_loop (row : Nat) (hrow : row ≤ 16) (k : Nat) (hk : k ≤ 1048576) (zc : List V) (bad bs : V) (Q : Option (V × Heap) → Prop) (ks : List Item) (b0 : V) (X : Option ((List Si × List (List Ce)) × RS))
    (hexit : ∀ φ' T SS RR S, X = some ((SS, RR), S) → Fr.get φ' 0 = b0 → Fr.get φ' 2 = .ptr 0 0 → Fr.get φ' 5 = .ptr 2 0 → Q (M (eval tbl noExt) ks φ' (some zc :: rcR S :: some [bad, bs, cellL 11 (SS.map Si.cells), cellL 1 (RR.map rowV)] :: T)))
    (hret : ∀ φ' r m T, X = none → Fr.get φ' 2 = .ptr 0 0 → Fr.get φ' 3 = .bool false → Q (retK ks φ' (some [.bool false, .sl 6 [], .nils 11, .nils 1] :: r :: m :: T))) (hzc : zc.length = 4) (hov : ∀ a b c d : V, setMany zc 0 [a, b, c, d] = [a, b, c, d]) :
    ∀ (m j : Nat) (φ : Fr) (ts : List Si) (rs : List (List Ce)) (s : RS) (T : Heap), m + j = k → rs.length = ts.length → s.b.length ≤ 90000 → ts.length ≤ 90001 → (s.ok = true → ts.length + s.b.length ≤ 90000) →
      X = (rowsR m row s).map (fun x => ((ts ++ x.1.1, rs ++ x.1.2), x.2)) →
      Fr.get φ 0 = b0 → Fr.get φ 2 = .ptr 0 0 → Fr.get φ 4 = .ptr 1 0 → Fr.get φ 5 = .ptr 2 0 → Fr.get φ 6 = .int .i64 row → Fr.get φ 7 = .int .i64 k → Fr.get φ 8 = .int .i64 j →
      Q (M (eval tbl noExt) (.code l_flotsamref34_Decode_1 :: .blk 0 :: ks) φ (some zc :: rcR s :: some [bad, bs, cellL 11 (ts.map Si.cells), cellL 1 (rs.map rowV)] :: T)) := by
  intro m
  induction m with
  | zero =>
    intro j φ ts rs s T hj hlen hs ht hok hX h0 h2 h4 h5 h6 h7 h8
    have hlt : ¬ (j : Int) < k := by omega
    have hlt' : ¬ j < k := by omega
    simp only [rowsR, Option.map_some, List.append_nil] at hX
    rw [l_flotsamref34_Decode_1, M_loop]
    simp [b_flotsamref34_Decode_1, h0, h2, h4, h5, h6, h7, h8, hlt, hlt']
    exact hexit _ _ _ _ _ hX (by simp [h0]) (by simp [h2]) (by simp [h5])
  | succ m ih =>
    intro j φ ts rs s T hj hlen hs ht hok hX h0 h2 h4 h5 h6 h7 h8
    have hlt : (j : Int) < k := by omega
    have hlt' : j < k := by omega
    have A6 : arith .add .i64 (j : Int) 1 = some (.int .i64 ((j : Int) + 1)) := by
      show some (V.int .i64 (IntKind.i64.wrap _)) = _
      rw [w64 (by omega) (by omega)]
    have hrc : rcR s = some [.sl 1 (bytesRows s.b), .bool (!s.ok)] := rfl
    unfold rowsR at hX
    rw [l_flotsamref34_Decode_1, M_loop, ← l_flotsamref34_Decode_1]
    cases hso : s.ok with
    | false =>
      rw [hso] at hX hrc
      rw [if_neg (by simp)] at hX
      simp only [Option.map_some, List.append_nil] at hX
      simp only [Bool.not_false] at hrc
      simp [b_flotsamref34_Decode_1, h0, h2, h4, h5, h6, h7, h8, hlt, hlt', hrc]
      rw [← hrc]
      exact hexit _ _ _ _ _ hX (by simp [h0]) (by simp [h2]) (by simp [h5])
    | true =>
      rw [hso] at hX hrc
      rw [if_pos rfl] at hX
      simp only [Bool.not_true] at hrc
      have hok := hok hso
      obtain ⟨kd, s1, h1n⟩ : ∃ v1 s1, numR s = (v1, s1) := ⟨_, _, rfl⟩
      obtain ⟨pt, s2, h2n⟩ : ∃ v1 s', numR s1 = (v1, s') := ⟨_, _, rfl⟩
      obtain ⟨dp, s3, h3n⟩ : ∃ v1 s', numR s2 = (v1, s') := ⟨_, _, rfl⟩
      have l1 := numR_len s
      have l2 := numR_len s1
      have l3 := numR_len s2
      rw [h1n] at l1; rw [h2n] at l2; rw [h3n] at l3
      dsimp only at l1 l2 l3
      have n1 := refTakeX (show s.b.length ≤ 100000 by omega) h1n
      rw [hrc] at n1
      have n2 := refTakeX (show s1.b.length ≤ 100000 by omega) h2n
      have n3 := refTakeX (show s2.b.length ≤ 100000 by omega) h3n
      simp only [h1n, h2n, h3n] at hX
      by_cases h8d : 8 < dp
      · rw [if_pos h8d] at hX
        have h8d' : (8 : Int) < dp := by omega
        simp [-arith, b_flotsamref34_Decode_1, h0, h2, h4, h5, h6, h7, h8, hlt, hlt', hrc, n1, n2, n3, get0, set0, h8d, h8d', lt_pflotsamref34_bytes_take, hzc, hov]
        exact hret _ _ _ _ hX (by simp [h2]) (by simp)
      · rw [if_neg h8d] at hX
        have h8d' : ¬ (8 : Int) < dp := by omega
        obtain ⟨W, s4, hW⟩ : ∃ W s', numsR dp s3 = (W, s') := ⟨_, _, rfl⟩
        obtain ⟨r, s5, hcr⟩ : ∃ r s', cellsR' row s4 = (r, s') := ⟨_, _, rfl⟩
        have l4 := numsR_len dp s3
        have l5 := cellsR'_len row s4
        rw [hW] at l4
        rw [hcr] at l5
        dsimp only at l4 l5
        simp only [hW, hcr] at hX
        have okt := siteOf_ok kd pt dp W (by omega) l4.2.2
        obtain ⟨t, htt⟩ : ∃ t, t = siteOf kd pt dp W := ⟨_, rfl⟩
        rw [← htt] at hX okt
        have hcells : t.cells = iv kd :: iv pt :: ((W.map fun w : Nat => iv (w : Int)) ++ List.replicate (8 - dp) (iv 0) ++ [iv dp]) := by
          rw [htt]
          simp [siteOf, Si.cells, Function.comp_def]
        have q1 := Si.len okt
        have q3 := Si.strip (s := t)
        have q5 := Si.take okt
        have qs := h11 t okt
        have qp := n13e (s := t)
        have e11 : 2 * (ts.length + 1) * 88 ≤ 281474976710656 := by omega
        have e12 : 2 * (rs.length + 1) * 24 ≤ 281474976710656 := by omega
        have pc := fun z m T => cellsR34_eq row (by omega) z m T s4 (by omega)
        rw [hcr] at pc
        have hnext : ∀ φ', Fr.get φ' 0 = b0 → Fr.get φ' 2 = .ptr 0 0 → Fr.get φ' 4 = .ptr 1 0 → Fr.get φ' 5 = .ptr 2 0 → Fr.get φ' 6 = .int .i64 row → Fr.get φ' 7 = .int .i64 k → Fr.get φ' 8 = .int .i64 ((j + 1 : Nat) : Int) →
            Q (M (eval tbl noExt) (.code l_flotsamref34_Decode_1 :: .blk 0 :: ks) φ' (some zc :: rcR s5 :: some [bad, bs, .own 11 (ts.map Si.cells ++ [t.cells]), .own 1 (rs.map rowV ++ [rowV r])] :: (T ++ [some t.cells]))) := by
          intro φ' g0 g2 g4 g5 g6 g7 g8
          have := ih (j + 1) φ' (ts ++ [t]) (rs ++ [r]) s5 (T ++ [some t.cells]) (by omega) (by simp [hlen]) (by omega) (by simp; omega) (fun h => by
            have e4 := l4.2.1 (l5.2.1 h)
            have e3 := l3.2 e4
            have e2 := l2.2 e3.1
            have e1 := l1.2 e2.1
            simp; omega) (by
              rw [hX]
              cases rowsR m row s5 <;> simp) g0 g2 g4 g5 g6 g7 g8
          have c1 : cellL 11 ((ts ++ [t]).map Si.cells) = .own 11 (ts.map Si.cells ++ [t.cells]) := by
            rw [List.map_append]
            cases ts <;> rfl
          have c2 : cellL 1 ((rs ++ [r]).map rowV) = .own 1 (rs.map rowV ++ [rowV r]) := by
            rw [List.map_append]
            cases rs <;> rfl
          rw [c1, c2] at this
          exact this
        have hinner : ∀ φ', Fr.get φ' 0 = b0 → Fr.get φ' 2 = .ptr 0 0 → Fr.get φ' 4 = .ptr 1 0 → Fr.get φ' 5 = .ptr 2 0 → Fr.get φ' 6 = .int .i64 row → Fr.get φ' 7 = .int .i64 k → Fr.get φ' 8 = .int .i64 j → Fr.get φ' 9 = .ptr (T.length + 1 + 1 + 1) 0 →
            Q (M (eval tbl noExt) (.code r_flotsamref34_Decode_0 :: .blk 1 :: .code r_flotsamref34_Decode_1 :: .code l_flotsamref34_Decode_1 :: .blk 0 :: ks) φ' (some zc :: rcR s4 :: some [bad, bs, cellL 11 (ts.map Si.cells), cellL 1 (rs.map rowV)] :: (T ++ [some t.cells]))) := by
          intro φ' g0 g2 g4 g5 g6 g7 g8 g9
          cases ts with
          | nil =>
            have hr0 : rs = [] := List.eq_nil_of_length_eq_zero hlen
            subst hr0
            have c1 : cellL 11 (([] : List Si).map Si.cells) = .nils 11 := rfl
            have c2 : cellL 1 (([] : List (List Ce)).map rowV) = .nils 1 := rfl
            rw [c1, c2]
            simp [-arith, r_flotsamref34_Decode_0, r_flotsamref34_Decode_1, g0, g2, g4, g5, g6, g7, g8, g9, A6, pc, get0, q1, q3, q5, qs, qp, lt_pflotsamref34_bytes_cells]
            exact hnext _ (by simp [g0]) (by simp [g2]) (by simp [g4]) (by simp [g5]) (by simp [g6]) (by simp [g7]) (by simp)
          | cons t0 ts =>
            obtain ⟨r0, rs', rfl⟩ : ∃ r0 rs', rs = r0 :: rs' := by
              cases rs with
              | nil => simp at hlen
              | cons r0 rs' => exact ⟨r0, rs', rfl⟩
            have c1 : cellL 11 ((t0 :: ts).map Si.cells) = .own 11 ((t0 :: ts).map Si.cells) := rfl
            have c2 : cellL 1 ((r0 :: rs').map rowV) = .own 1 ((r0 :: rs').map rowV) := rfl
            rw [c1, c2]
            obtain ⟨X', hX'⟩ : ∃ X, X = (t0 :: ts).map Si.cells := ⟨_, rfl⟩
            obtain ⟨Y', hY'⟩ : ∃ Y, Y = (r0 :: rs').map rowV := ⟨_, rfl⟩
            have hXl : X'.length = (t0 :: ts).length := by rw [hX']; simp
            have hYl : Y'.length = (r0 :: rs').length := by rw [hY']; simp
            rw [← hX', ← hY'] at hnext ⊢
            rw [← hXl] at e11
            rw [← hYl] at e12
            simp [-arith, r_flotsamref34_Decode_0, r_flotsamref34_Decode_1, g0, g2, g4, g5, g6, g7, g8, g9, A6, pc, get0, q1, q3, q5, qs, qp, e11, e12, lt_pflotsamref34_bytes_cells]
            exact hnext _ (by simp [g0]) (by simp [g2]) (by simp [g4]) (by simp [g5]) (by simp [g6]) (by simp [g7]) (by simp)
        rw [hcells] at hinner
        simp [-arith, b_flotsamref34_Decode_1, h0, h2, h4, h5, h6, h7, h8, hlt, hlt', hrc, n1, n2, n3, get0, set0, h8d, h8d', lt_pflotsamref34_bytes_take]
        refine wayR_loop _ _ T Q _ kd pt dp (by omega) W s4 b0 (.ptr 0 0) (.ptr 2 0) (.int .i64 row) (.int .i64 k) (.int .i64 j) (fun φ' g0 g2 g4 g5 g6 g7 g8 g9 => hinner φ' g0 g2 g4 g5 g6 g7 g8 g9) dp 0 _ [] s3 (by omega) rfl (by omega) (by rw [hW]; rfl) (by rw [hW]) ?_ ?_ ?_ ?_ ?_ ?_ ?_ ?_ ?_ <;> simp [h0, h2, h4, h5, h6, h7, h8]

theorem rowsR_facts : ∀ (k row : Nat) (s : RS) (x : (List Si × List (List Ce)) × RS), row ≤ 16 → rowsR k row s = some x → x.1.1.length = x.1.2.length ∧ x.1.1.length ≤ s.b.length + 1 ∧ (∀ t ∈ x.1.1, t.ok) ∧ (∀ r ∈ x.1.2, r.length ≤ 16)
  | 0, row, s, x, _, h => by simp only [rowsR, Option.some.injEq] at h; subst h; simp
  | k + 1, row, s, x, hrow, h => by
    unfold rowsR at h
    split at h
    · rename_i hok
      split at h
      · cases h
      · rename_i h8
        obtain ⟨s1, hs1⟩ : ∃ s1, s1 = (cellsR' row (numsR (numR (numR (numR s).2).2).1 (numR (numR (numR s).2).2).2).2).2 := ⟨_, rfl⟩
        rw [← hs1] at h
        have g1 := numR_len s
        have g2 := numR_len (numR s).2
        have g3 := numR_len (numR (numR s).2).2
        have g4 := numsR_len (numR (numR (numR s).2).2).1 (numR (numR (numR s).2).2).2
        have g5 := cellsR'_len row (numsR (numR (numR (numR s).2).2).1 (numR (numR (numR s).2).2).2).2
        split at h
        · cases h
        · rename_i y hy
          simp only [Option.some.injEq] at h
          subst h
          obtain ⟨i1, i2, i3, i4⟩ := rowsR_facts k row s1 y hrow hy
          refine ⟨by simp [i1], ?_, ?_, ?_⟩
          · cases hok1 : s1.ok with
            | true =>
              have e5 := g5.2.1 (by rw [← hs1]; exact hok1)
              have e4 := g4.2.1 e5
              have e3 := g3.2 e4
              have e2 := g2.2 e3.1
              have e1 := g1.2 e2.1
              have : s1.b.length ≤ (numsR (numR (numR (numR s).2).2).1 (numR (numR (numR s).2).2).2).2.b.length := by rw [hs1]; exact g5.1
              simp; omega
            | false =>
              have : y.1.1 = [] := by
                cases k with
                | zero => simp only [rowsR, Option.some.injEq] at hy; subst hy; rfl
                | succ k =>
                  unfold rowsR at hy
                  rw [hok1, if_neg (by simp)] at hy
                  simp only [Option.some.injEq] at hy; subst hy; rfl
              rw [this]; simp
          · intro t ht
            rcases List.mem_cons.1 ht with rfl | ht
            · exact siteOf_ok _ _ _ _ (by omega) g4.2.2
            · exact i3 t ht
          · intro r hr
            rcases List.mem_cons.1 hr with rfl | hr
            · have := g5.2.2; omega
            · exact i4 r hr
    · simp only [Option.some.injEq] at h; subst h; simp

theorem cellR_kept (s : RS) : 0 ≤ (cellR s).1.kept := by
  unfold cellR
  split
  · exact Int.natCast_nonneg _
  · split
    · exact Int.le_refl 0
    · exact Int.le_refl 0
theorem cellsR'_kept : ∀ (k : Nat) (s : RS), ∀ c ∈ (cellsR' k s).1, 0 ≤ c.kept
  | 0, s => by simp [cellsR']
  | k + 1, s => by
    unfold cellsR'
    split
    · intro c hc
      rcases List.mem_cons.1 hc with rfl | hc
      · exact cellR_kept s
      · exact cellsR'_kept k _ c hc
    · simp
theorem rowsR_kept : ∀ (k row : Nat) (s : RS) (x : (List Si × List (List Ce)) × RS), rowsR k row s = some x → ∀ r ∈ x.1.2, ∀ c ∈ r, 0 ≤ c.kept
  | 0, row, s, x, h => by simp only [rowsR, Option.some.injEq] at h; subst h; simp
  | k + 1, row, s, x, h => by
    unfold rowsR at h
    split at h
    · split at h
      · cases h
      · split at h
        · cases h
        · rename_i y hy
          simp only [Option.some.injEq] at h
          subst h
          intro r hr
          rcases List.mem_cons.1 hr with rfl | hr
          · exact cellsR'_kept _ _
          · exact rowsR_kept k row _ y hy r hr
    · simp only [Option.some.injEq] at h; subst h; simp

theorem refDecode_eq (l : List UInt8) (hl : l.length ≤ 90000) : eval tbl noExt n_flotsamref34_Decode [.sl 1 (bytesRows l)] [] = some (decV (decRS l), []) := by
  have hz : zeroMx.cells = [.bool false, .sl 6 [], .sl 11 [], .sl 1 []] := rfl
  have hRHS : ∀ p : Mx × Bool, decV p = .tup [.agg p.1.cells, .bool p.2] := fun _ => rfl
  unfold decRS decR
  rw [eval_M rfl rfl t_flotsamref34_Decode rfl]
  obtain ⟨v1, s1, h1⟩ : ∃ v s, numR ⟨l, true⟩ = (v, s) := ⟨_, _, rfl⟩
  obtain ⟨row, s2, h2⟩ : ∃ v s, numR s1 = (v, s) := ⟨_, _, rfl⟩
  obtain ⟨base, s3, h3⟩ : ∃ v s, cellsR' row s2 = (v, s) := ⟨_, _, rfl⟩
  obtain ⟨v4, s4, h4⟩ : ∃ v s, numR s3 = (v, s) := ⟨_, _, rfl⟩
  have l1 := (numR_len ⟨l, true⟩).1
  have l2 := (numR_len s1).1
  have l3 := (cellsR'_len row s2).1
  have l4 := (numR_len s3).1
  have k4 := numR_le s3
  have l3c := (cellsR'_len row s2).2.2
  have hbk := cellsR'_kept row s2
  rw [h1] at l1; rw [h2] at l2; rw [h3] at l3 l3c hbk; rw [h4] at l4 k4
  dsimp only at l1 l2 l3 l3c l4 k4 hbk
  simp only [h1, h2, h3, h4]
  have n1 := fun z T => refTakeX2 (s := ⟨l, true⟩) (by dsimp only; omega) h1 z T
  have hrc0 : rcR ⟨l, true⟩ = some [.sl 1 (bytesRows l), .bool false] := rfl
  simp only [hrc0] at n1
  have n2 := fun z T => refTakeX2 (s := s1) (by omega) h2 z T
  have n4 := fun z T => refTakeX2 (s := s3) (by omega) h4 z T
  have hbad : ((decide ((v1 : Int) = 1)) : Bool) = decide (v1 = 1) := by
    have : (((v1 : Int) = 1) : Prop) = (v1 = 1) := propext ⟨by omega, by omega⟩
    simp [this]
  by_cases a1 : 16 < row
  · have a1' : (16 : Int) < row := by omega
    rw [if_pos a1]
    have : finR l none = (zeroMx, false) := rfl
    rw [this]
    simp [c_flotsamref34_Decode, n1, n2, a1, a1', lt_pflotsamref34_bytes_take, hRHS, hz]
  · have a1' : ¬ (16 : Int) < row := by omega
    rw [if_neg a1]
    have n3 := fun z m T => cellsR34_eq row (by omega) z m T s2 (by omega)
    rw [h3] at n3
    obtain ⟨X, hX⟩ : ∃ X, X = rowsR v4 row s4 := ⟨_, rfl⟩
    rw [← hX]
    simp [c_flotsamref34_Decode, n1, n2, n3, n4, a1, a1', lt_pflotsamref34_bytes_take, lt_pflotsamref34_bytes_cells]
    rw [hbad]
    refine decR_loop row (by omega) v4 k4 [.bool false, .own 6 [], .own 11 [], .own 1 []] _ _ (fun r => r = some (decV (finR l (mkR (decide (v1 = 1)) base X)), [])) _ (.sl 1 (bytesRows l)) X ?_ ?_ rfl ?_ v4 0 _ [] [] s4 [] rfl rfl (by omega) (by simp) (by intro _; simp; omega) (by rw [hX]; cases rowsR v4 row s4 <;> simp) ?_ ?_ ?_ ?_ ?_ ?_ ?_
    · intro φ' T SS RR S hXs g0 g2 g5
      have hf := rowsR_facts v4 row s4 _ (by omega) (hX.symm.trans hXs)
      have hkp := rowsR_kept v4 row s4 _ (hX.symm.trans hXs)
      obtain ⟨r1, r2, r3, r4⟩ := hf
      dsimp only at r1 r2 r3 r4 hkp
      rw [hXs]
      obtain ⟨m, hm⟩ : ∃ m : Mx, m = ⟨decide (v1 = 1), base, SS, RR⟩ := ⟨_, rfl⟩
      have hmk : mkR (decide (v1 = 1)) base (some ((SS, RR), S)) = some m := by rw [hm]; rfl
      rw [hmk]
      have hfr : finR l (some m) = if m.rightA = true ∧ encS m = l then (m, true) else (zeroMx, false) := rfl
      rw [hfr]
      have f1 : m.mid := by
        rw [hm]
        by_cases h5 : SS.length ≤ 512
        · exact .inl ⟨by dsimp only; omega, h5, by dsimp only; omega, fun l hl => by have := r4 l hl; omega⟩
        · exact .inr ⟨by dsimp only; omega, by dsimp only; omega, by dsimp only; omega, by dsimp only; omega⟩
      have f2 : ∀ s ∈ m.sites, s.ok := by rw [hm]; exact r3
      have f3 : (∀ c ∈ m.base, 0 ≤ c.kept) ∧ ∀ r ∈ m.rows, ∀ c ∈ r, 0 ≤ c.kept := by rw [hm]; exact ⟨hbk, hkp⟩
      have hEnc := refEncode_eq m f1 f2 f3
      have hmc : m.cells = [.bool (decide (v1 = 1)), .sl 6 (base.map Ce.cells), .sl 11 (SS.map Si.cells), .sl 1 (RR.map rowV)] := by rw [hm]; rfl
      obtain ⟨LX, hLX⟩ : ∃ LX, LX = SS.map Si.cells := ⟨_, rfl⟩
      obtain ⟨LY, hLY⟩ : ∃ LY, LY = RR.map rowV := ⟨_, rfl⟩
      rw [← hLX, ← hLY] at hmc ⊢
      have cX : cellL 11 LX = .own 11 LX ∨ (cellL 11 LX = .nils 11 ∧ LX = []) := by cases LX <;> simp [cellL]
      have cY : cellL 1 LY = .own 1 LY ∨ (cellL 1 LY = .nils 1 ∧ LY = []) := by cases LY <;> simp [cellL]
      rw [hmc] at hEnc
      have hfin : ∀ X Y : V, (X = .own 11 LX ∨ (X = .nils 11 ∧ LX = [])) → (Y = .own 1 LY ∨ (Y = .nils 1 ∧ LY = [])) →
          M (eval tbl noExt) [.code r_flotsamref34_Decode_2, .fin [.cell 2 (some 4), .t 3] 0] φ' (some [.bool false, .own 6 [], .own 11 [], .own 1 []] :: rcR S :: some [.bool (decide (v1 = 1)), .own 6 (base.map Ce.cells), X, Y] :: T) =
            some (decV (if m.rightA = true ∧ encS m = l then (m, true) else (zeroMx, false)), []) := by
        intro X Y hX hY
        unfold encV at hEnc
        rcases hX with rfl | ⟨rfl, hX0⟩ <;> rcases hY with rfl | ⟨rfl, hY0⟩
        all_goals (try rw [hX0] at hEnc hmc)
        all_goals (try rw [hY0] at hEnc hmc)
        all_goals
          cases hA : m.rightA with
          | false =>
            rw [hA, if_neg (by simp)] at hEnc
            rw [if_neg (by simp)]
            simp [r_flotsamref34_Decode_2, g0, g2, g5, hEnc, hRHS, hz, lt_flotsamref34_Encode]
          | true =>
            rw [hA, if_pos rfl] at hEnc
            by_cases hb2 : encS m = l
            · rw [if_pos ⟨rfl, hb2⟩]
              simp [r_flotsamref34_Decode_2, g0, g2, g5, hEnc, hRHS, hz, hb2, hmc, rowsBytes_of, lt_flotsamref34_Encode]
            · rw [if_neg (by rintro ⟨_, h⟩; exact hb2 h)]
              simp [r_flotsamref34_Decode_2, g0, g2, g5, hEnc, hRHS, hz, hb2, rowsBytes_of, lt_flotsamref34_Encode]
      exact hfin (cellL 11 LX) (cellL 1 LY) cX cY
    · intro φ' r m T hXn g2 g3
      rw [hXn]
      have : finR l (mkR (decide (v1 = 1)) base none) = (zeroMx, false) := rfl
      rw [this]
      simp [g2, g3, hRHS, hz]
    all_goals simp

end Go.AM.Spec

namespace Go.AM.Spec
set_option linter.unusedVariables false
set_option linter.unusedSimpArgs false
set_option maxHeartbeats 1000000
set_option maxRecDepth 10000

theorem numP_uint {n : Nat} (h : n ≤ 1048576) (r : List UInt8) : numP ⟨uintB n ++ r, true⟩ = (n, ⟨r, true⟩) := by
  unfold numP
  dsimp only
  rw [take_first n r (by omega)]
  dsimp only
  rw [if_pos ⟨rfl, h⟩]
theorem numR_uint {n : Nat} (h : n ≤ 1048576) (r : List UInt8) : numR ⟨uintB n ++ r, true⟩ = (n, ⟨r, true⟩) := by
  unfold numR
  dsimp only
  rw [take_first n r (by omega)]
  dsimp only
  rw [if_pos ⟨rfl, h⟩]

theorem cell_says {c : Ce} (h : c.right = true) : (c.says = 0 ∧ c.point = 0 ∧ c.kept = 0 ∧ c.verdict = 0 ∧ c.err = 0 ∧ c.limit = 0) ∨ (c.says = 1 ∧ c.limit = 0) ∨ (c.says = 2 ∧ c.point = 0 ∧ c.kept = 0 ∧ c.verdict = 0 ∧ c.err = 0) := by
  unfold Ce.right at h
  split at h
  · simp only [Bool.and_eq_true, decide_eq_true_eq] at h
    exact .inr (.inl ⟨‹_›, h.1⟩)
  · split at h
    · simp only [Bool.and_eq_true, Bool.or_eq_true, decide_eq_true_eq] at h
      exact .inr (.inr ⟨‹_›, h.1⟩)
    · simp only [Bool.and_eq_true, decide_eq_true_eq] at h
      exact .inl h

theorem cellP_inv {c : Ce} (h : c.right = true) (hk : 0 ≤ c.kept) (r : List UInt8) : cellP ⟨numsB (cellN c) ++ r, true⟩ = (c, ⟨r, true⟩) := by
  have hn := Ce.right_nat h hk
  obtain ⟨⟨c1, c1'⟩, ⟨c2, c2'⟩, ⟨c3, c3'⟩, ⟨c4, c4'⟩, ⟨c5, c5'⟩, c6, c6'⟩ := hn
  have hs := cell_says h
  obtain ⟨sa, po, ke, ve, er, li⟩ := c
  dsimp only at c1 c1' c2 c2' c3 c3' c4 c4' c5 c5' c6 c6' hs
  obtain ⟨po, rfl⟩ := Int.eq_ofNat_of_zero_le c2
  obtain ⟨ke, rfl⟩ := Int.eq_ofNat_of_zero_le c3
  obtain ⟨ve, rfl⟩ := Int.eq_ofNat_of_zero_le c4
  obtain ⟨er, rfl⟩ := Int.eq_ofNat_of_zero_le c5
  obtain ⟨li, rfl⟩ := Int.eq_ofNat_of_zero_le c6
  rcases hs with ⟨rfl, h1, h2, h3, h4, h5⟩ | ⟨rfl, h1⟩ | ⟨rfl, h1, h2, h3, h4⟩
  · have e : numsB (cellN ⟨0, po, ke, ve, er, li⟩) ++ r = uintB 0 ++ r := by simp [cellN, numsB]
    rw [e]
    unfold cellP
    rw [numP_uint (by omega)]
    rw [h1, h2, h3, h4, h5]
    simp
  · have e : numsB (cellN ⟨1, po, ke, ve, er, li⟩) ++ r = uintB 1 ++ (uintB po ++ (uintB ke ++ (uintB ve ++ (uintB er ++ r)))) := by simp [cellN, numsB]
    rw [e]
    unfold cellP
    simp only [numP_uint (show 1 ≤ 1048576 by omega), numP_uint (show po ≤ 1048576 by omega), numP_uint (show ke ≤ 1048576 by omega), numP_uint (show ve ≤ 1048576 by omega), numP_uint (show er ≤ 1048576 by omega)]
    rw [h1]
    simp
  · have e : numsB (cellN ⟨2, po, ke, ve, er, li⟩) ++ r = uintB 2 ++ (uintB li ++ r) := by simp [cellN, numsB]
    rw [e]
    unfold cellP
    simp only [numP_uint (show 2 ≤ 1048576 by omega), numP_uint (show li ≤ 1048576 by omega)]
    rw [h1, h2, h3, h4]
    simp

theorem cellsP_inv : ∀ (l : List Ce), (∀ c ∈ l, c.right = true ∧ 0 ≤ c.kept) → ∀ r : List UInt8, cellsP l.length ⟨numsB (cellsN l) ++ r, true⟩ = (l, ⟨r, true⟩)
  | [], _, r => by simp [cellsP, cellsN, numsB]
  | c :: l, h, r => by
    have h1 := h c (by simp)
    have ih := cellsP_inv l (fun x hx => h x (by simp [hx])) r
    have e : numsB (cellsN (c :: l)) ++ r = numsB (cellN c) ++ (numsB (cellsN l) ++ r) := by simp [cellsN, numsB_append]
    rw [e, List.length_cons]
    unfold cellsP
    rw [if_pos rfl, cellP_inv h1.1 h1.2, ih]

theorem numsP_inv : ∀ (l : List Nat), (∀ n ∈ l, n ≤ 1048576) → ∀ r : List UInt8, numsP l.length ⟨numsB l ++ r, true⟩ = (l, ⟨r, true⟩)
  | [], _, r => by simp [numsP, numsB]
  | n :: l, h, r => by
    have ih := numsP_inv l (fun x hx => h x (by simp [hx])) r
    rw [numsB_cons, List.append_assoc, List.length_cons]
    unfold numsP
    rw [numP_uint (h n (by simp)), ih]

theorem way_back {s : Si} (h : s.nat) (hok : s.ok) : ((s.way.take s.deep.toNat).map Int.toNat).map Int.ofNat ++ List.replicate (8 - s.deep.toNat) 0 = s.way := by
  have h8 : s.way.length = 8 := hok
  have h1 := h.deep
  have e1 : ((s.way.take s.deep.toNat).map Int.toNat).map Int.ofNat = s.way.take s.deep.toNat := by
    rw [List.map_map]
    have : ∀ w ∈ s.way.take s.deep.toNat, (Int.ofNat ∘ Int.toNat) w = id w := by
      intro w hw
      have := h.way w (List.mem_of_mem_take hw)
      simp only [Function.comp, id]
      show ((w.toNat : Nat) : Int) = w
      omega
    rw [List.map_congr_left this, List.map_id]
  have e2 : List.replicate (8 - s.deep.toNat) (0 : Int) = s.way.drop s.deep.toNat := by
    symm
    rw [List.eq_replicate_iff]
    exact ⟨by simp [h8], h.rest⟩
  rw [e1, e2, List.take_append_drop]

theorem siteP_inv {s : Si} (h : s.nat) (hok : s.ok) (r : List UInt8) : siteP ⟨numsB (siteNs s) ++ r, true⟩ = (s, ⟨r, true⟩) := by
  have k1 := h.kind; have k2 := h.part; have k3 := h.deep
  have h8 : s.way.length = 8 := hok
  have hw := way_back h hok
  obtain ⟨ws, hws⟩ : ∃ ws, ws = (s.way.take s.deep.toNat).map Int.toNat := ⟨_, rfl⟩
  have hwl : ws.length = s.deep.toNat := by rw [hws]; simp; omega
  have hwle : ∀ n ∈ ws, n ≤ 1048576 := by
    intro n hn
    rw [hws, List.mem_map] at hn
    obtain ⟨w, hw, rfl⟩ := hn
    have := h.way w (List.mem_of_mem_take hw)
    omega
  have e : numsB (siteNs s) ++ r = uintB s.kind.toNat ++ (uintB s.part.toNat ++ (uintB s.deep.toNat ++ (numsB ws ++ r))) := by
    rw [siteNs, ← hws]
    simp [numsB_cons]
  rw [e]
  unfold siteP
  simp only [numP_uint (show s.kind.toNat ≤ 1048576 by omega), numP_uint (show s.part.toNat ≤ 1048576 by omega), numP_uint (show s.deep.toNat ≤ 1048576 by omega)]
  have hmin : min s.deep.toNat 8 = s.deep.toNat := by omega
  have hdp : deepP ⟨numsB ws ++ r, true⟩ s.deep.toNat = ⟨numsB ws ++ r, true⟩ := by
    unfold deepP
    simp; omega
  rw [hmin, hdp, ← hwl, numsP_inv ws hwle]
  rw [← hws, ← hwl] at hw
  dsimp only
  rw [hw]
  obtain ⟨kd, pt, wy, dp⟩ := s
  dsimp only at k1 k2 k3 hwl ⊢
  simp only [Prod.mk.injEq, Si.mk.injEq, true_and, and_true]
  omega

structure Gd (row : Nat) (ss : List Si) (rs : List (List Ce)) : Prop where
  len : ss.length = rs.length
  site : ∀ s ∈ ss, s.nat ∧ s.ok
  row : ∀ r ∈ rs, r.length = row ∧ ∀ c ∈ r, c.right = true ∧ 0 ≤ c.kept

theorem rowsP_inv (row : Nat) : ∀ (ss : List Si) (rs : List (List Ce)), Gd row ss rs → ∀ r : List UInt8, rowsP ss.length row ⟨numsB (rowsN ss rs) ++ r, true⟩ = ((ss, rs), ⟨r, true⟩)
  | [], rs, h, r => by
    have : rs = [] := List.eq_nil_of_length_eq_zero h.len.symm
    subst this
    simp [rowsP, rowsN, numsB]
  | s :: ss, [], h, r => by have := h.len; simp at this
  | s :: ss, q :: rs, h, r => by
    have h1 := h.site s (by simp)
    have h2 := h.row q (by simp)
    have ih := rowsP_inv row ss rs ⟨by have := h.len; simpa using this, fun x hx => h.site x (by simp [hx]), fun x hx => h.row x (by simp [hx])⟩ r
    have e : numsB (rowsN (s :: ss) (q :: rs)) ++ r = numsB (siteNs s) ++ (numsB (cellsN q) ++ (numsB (rowsN ss rs) ++ r)) := by simp [rowsN, numsB_append]
    rw [e, List.length_cons]
    unfold rowsP
    rw [if_pos rfl, siteP_inv h1.1 h1.2]
    dsimp only
    rw [← h2.1, cellsP_inv q h2.2]
    dsimp only
    rw [h2.1, ih]

theorem cellR_inv {c : Ce} (h : c.right = true) (hk : 0 ≤ c.kept) (r : List UInt8) : cellR ⟨numsB (cellN c) ++ r, true⟩ = (c, ⟨r, true⟩) := by
  have hn := Ce.right_nat h hk
  obtain ⟨⟨c1, c1'⟩, ⟨c2, c2'⟩, ⟨c3, c3'⟩, ⟨c4, c4'⟩, ⟨c5, c5'⟩, c6, c6'⟩ := hn
  have hs := cell_says h
  obtain ⟨sa, po, ke, ve, er, li⟩ := c
  dsimp only at c1 c1' c2 c2' c3 c3' c4 c4' c5 c5' c6 c6' hs
  obtain ⟨po, rfl⟩ := Int.eq_ofNat_of_zero_le c2
  obtain ⟨ke, rfl⟩ := Int.eq_ofNat_of_zero_le c3
  obtain ⟨ve, rfl⟩ := Int.eq_ofNat_of_zero_le c4
  obtain ⟨er, rfl⟩ := Int.eq_ofNat_of_zero_le c5
  obtain ⟨li, rfl⟩ := Int.eq_ofNat_of_zero_le c6
  rcases hs with ⟨rfl, h1, h2, h3, h4, h5⟩ | ⟨rfl, h1⟩ | ⟨rfl, h1, h2, h3, h4⟩
  · have e : numsB (cellN ⟨0, po, ke, ve, er, li⟩) ++ r = uintB 0 ++ r := by simp [cellN, numsB]
    rw [e]
    unfold cellR
    rw [numR_uint (by omega)]
    rw [h1, h2, h3, h4, h5]
    simp
  · have e : numsB (cellN ⟨1, po, ke, ve, er, li⟩) ++ r = uintB 1 ++ (uintB po ++ (uintB ke ++ (uintB ve ++ (uintB er ++ r)))) := by simp [cellN, numsB]
    rw [e]
    unfold cellR
    simp only [numR_uint (show 1 ≤ 1048576 by omega), numR_uint (show po ≤ 1048576 by omega), numR_uint (show ke ≤ 1048576 by omega), numR_uint (show ve ≤ 1048576 by omega), numR_uint (show er ≤ 1048576 by omega)]
    rw [h1]
    simp
  · have e : numsB (cellN ⟨2, po, ke, ve, er, li⟩) ++ r = uintB 2 ++ (uintB li ++ r) := by simp [cellN, numsB]
    rw [e]
    unfold cellR
    simp only [numR_uint (show 2 ≤ 1048576 by omega), numR_uint (show li ≤ 1048576 by omega)]
    rw [h1, h2, h3, h4]
    simp

theorem cellsR_inv : ∀ (l : List Ce), (∀ c ∈ l, c.right = true ∧ 0 ≤ c.kept) → ∀ r : List UInt8, cellsR' l.length ⟨numsB (cellsN l) ++ r, true⟩ = (l, ⟨r, true⟩)
  | [], _, r => by simp [cellsR', cellsN, numsB]
  | c :: l, h, r => by
    have h1 := h c (by simp)
    have ih := cellsR_inv l (fun x hx => h x (by simp [hx])) r
    have e : numsB (cellsN (c :: l)) ++ r = numsB (cellN c) ++ (numsB (cellsN l) ++ r) := by simp [cellsN, numsB_append]
    rw [e, List.length_cons]
    unfold cellsR'
    rw [if_pos rfl, cellR_inv h1.1 h1.2, ih]

theorem numsR_inv : ∀ (l : List Nat), (∀ n ∈ l, n ≤ 1048576) → ∀ r : List UInt8, numsR l.length ⟨numsB l ++ r, true⟩ = (l, ⟨r, true⟩)
  | [], _, r => by simp [numsR, numsB]
  | n :: l, h, r => by
    have ih := numsR_inv l (fun x hx => h x (by simp [hx])) r
    rw [numsB_cons, List.append_assoc, List.length_cons]
    unfold numsR
    rw [numR_uint (h n (by simp)), ih]


theorem rowsR_inv (row : Nat) : ∀ (ss : List Si) (rs : List (List Ce)), Gd row ss rs → ∀ r : List UInt8, rowsR ss.length row ⟨numsB (rowsN ss rs) ++ r, true⟩ = some ((ss, rs), ⟨r, true⟩)
  | [], rs, h, r => by
    have : rs = [] := List.eq_nil_of_length_eq_zero h.len.symm
    subst this
    simp [rowsR, rowsN, numsB]
  | s :: ss, [], h, r => by have := h.len; simp at this
  | s :: ss, q :: rs, h, r => by
    obtain ⟨hn, hok⟩ := h.site s (by simp)
    have h2 := h.row q (by simp)
    have ih := rowsR_inv row ss rs ⟨by have := h.len; simpa using this, fun x hx => h.site x (by simp [hx]), fun x hx => h.row x (by simp [hx])⟩ r
    have k1 := hn.kind; have k2 := hn.part; have k3 := hn.deep
    have h8 : s.way.length = 8 := hok
    have hw := way_back hn hok
    obtain ⟨ws, hws⟩ : ∃ ws, ws = (s.way.take s.deep.toNat).map Int.toNat := ⟨_, rfl⟩
    have hwl : ws.length = s.deep.toNat := by rw [hws]; simp; omega
    have hwle : ∀ n ∈ ws, n ≤ 1048576 := by
      intro n hn'
      rw [hws, List.mem_map] at hn'
      obtain ⟨w, hw, rfl⟩ := hn'
      have := hn.way w (List.mem_of_mem_take hw)
      omega
    have e : numsB (rowsN (s :: ss) (q :: rs)) ++ r = uintB s.kind.toNat ++ (uintB s.part.toNat ++ (uintB s.deep.toNat ++ (numsB ws ++ (numsB (cellsN q) ++ (numsB (rowsN ss rs) ++ r))))) := by
      simp only [rowsN, siteNs, ← hws, List.cons_append, numsB_cons, numsB_append, List.append_assoc]
    rw [e, List.length_cons]
    unfold rowsR
    rw [if_pos rfl]
    simp only [numR_uint (show s.kind.toNat ≤ 1048576 by omega), numR_uint (show s.part.toNat ≤ 1048576 by omega), numR_uint (show s.deep.toNat ≤ 1048576 by omega)]
    rw [if_neg (by omega), ← hwl, numsR_inv ws hwle]
    dsimp only
    rw [← h2.1, cellsR_inv q h2.2]
    dsimp only
    rw [h2.1, ih]
    dsimp only
    have hs : siteOf s.kind.toNat s.part.toNat ws.length ws = s := by
      unfold siteOf
      rw [← hws, ← hwl] at hw
      rw [hw]
      obtain ⟨kd, pt, wy, dp⟩ := s
      dsimp only at k1 k2 k3 hwl ⊢
      simp only [Si.mk.injEq, true_and]
      omega
    rw [hs]

theorem Mx.gd {m : Mx} (h : m.rightA = true) (hok : ∀ s ∈ m.sites, s.ok) (hk : (∀ c ∈ m.base, 0 ≤ c.kept) ∧ ∀ r ∈ m.rows, ∀ c ∈ r, 0 ≤ c.kept) : Gd m.base.length m.sites m.rows ∧ (∀ c ∈ m.base, c.right = true ∧ 0 ≤ c.kept) := by
  have hn := Mx.nat_of h hk
  unfold Mx.rightA Mx.right at h
  simp only [Bool.and_eq_true, decide_eq_true_eq, List.all_eq_true] at h
  obtain ⟨h0, h1, h2, h3, h4⟩ := h
  refine ⟨⟨hn.len, fun s hs => ⟨hn.site s hs, hok s hs⟩, fun r hr => ⟨(hn.row r hr).1, fun c hc => ⟨?_, hk.2 r hr c hc⟩⟩⟩, fun c hc => ⟨h2 c hc, hk.1 c hc⟩⟩
  split at h4
  · simp only [Bool.and_eq_true, decide_eq_true_eq] at h4
    have : m.rows = [] := List.eq_nil_of_length_eq_zero h4.2
    rw [this] at hr; simp at hr
  · simp only [Bool.and_eq_true, decide_eq_true_eq, List.all_eq_true] at h4
    have := h4.2.1 r hr
    simp only [rowOK, Bool.and_eq_true, decide_eq_true_eq, List.all_eq_true] at this
    exact this.2 c hc

theorem encB_eq (m : Mx) : encB m = uintB (if m.bad then 1 else 0) ++ (uintB m.base.length ++ (numsB (cellsN m.base) ++ (uintB m.sites.length ++ numsB (rowsN m.sites m.rows)))) := by
  simp [encB, matN, numsB_cons, numsB_append]

theorem decP_inv {m : Mx} (h : m.rightA = true) (hok : ∀ s ∈ m.sites, s.ok) (hk : (∀ c ∈ m.base, 0 ≤ c.kept) ∧ ∀ r ∈ m.rows, ∀ c ∈ r, 0 ≤ c.kept) : decP (encB m) = (m, true) := by
  have hn := Mx.nat_of h hk
  obtain ⟨hg, hb⟩ := Mx.gd h hok hk
  have h16 := hn.base16
  have h512 := hn.sites
  have hbit : (if m.bad then 1 else 0) ≤ 1048576 := by split <;> omega
  unfold decP
  rw [encB_eq]
  simp only [numP_uint hbit, numP_uint (show m.base.length ≤ 1048576 by omega)]
  rw [show min m.base.length 17 = m.base.length by omega]
  simp only [cellsP_inv m.base hb, numP_uint (show m.sites.length ≤ 1048576 by omega)]
  have := rowsP_inv m.base.length m.sites m.rows hg []
  rw [List.append_nil] at this
  rw [this]
  obtain ⟨bad, base, sites, rows⟩ := m
  cases bad <;> simp

theorem decR_inv {m : Mx} (h : m.rightA = true) (hok : ∀ s ∈ m.sites, s.ok) (hk : (∀ c ∈ m.base, 0 ≤ c.kept) ∧ ∀ r ∈ m.rows, ∀ c ∈ r, 0 ≤ c.kept) : decR (encS m) = some m := by
  have hn := Mx.nat_of h hk
  obtain ⟨hg, hb⟩ := Mx.gd h hok hk
  have h16 := hn.base16
  have h512 := hn.sites
  have hbit : (if m.bad then 1 else 0) ≤ 1048576 := by split <;> omega
  have he : encS m = uintB (if m.bad then 1 else 0) ++ (uintB m.base.length ++ (numsB (cellsN m.base) ++ (uintB m.sites.length ++ (numsB (rowsN m.sites m.rows) ++ sealS (sumN (encB m)))))) := by
    rw [encS]
    generalize sealS (sumN (encB m)) = z
    rw [encB_eq]
    simp
  unfold decR
  rw [he]
  simp only [numR_uint hbit, numR_uint (show m.base.length ≤ 1048576 by omega)]
  rw [if_neg (by omega)]
  simp only [cellsR_inv m.base hb, numR_uint (show m.sites.length ≤ 1048576 by omega)]
  rw [rowsR_inv m.base.length m.sites m.rows hg]
  obtain ⟨bad, base, sites, rows⟩ := m
  cases bad <;> simp [mkR]

/-- A matrix that may be encoded. -/
def Mx.can (m : Mx) : Prop := m.rightA = true ∧ (∀ s ∈ m.sites, s.ok) ∧ ((∀ c ∈ m.base, 0 ≤ c.kept) ∧ ∀ r ∈ m.rows, ∀ c ∈ r, 0 ≤ c.kept)

theorem decS_some {m : Mx} (h : m.can) : decS (encS m) = (m, true) := by
  have hd := decP_inv h.1 h.2.1 h.2.2
  have hl : (encS m).length = (encB m).length + 8 := by simp [encS, sealS_len]
  have ht : (encS m).take ((encS m).length - 8) = encB m := by
    rw [hl, show (encB m).length + 8 - 8 = (encB m).length by omega, encS, List.take_left' rfl]
  have hdr : (encS m).drop ((encS m).length - 8) = sealS (sumN (encB m)) := by
    rw [hl, show (encB m).length + 8 - 8 = (encB m).length by omega, encS, List.drop_left' rfl]
  unfold decS
  rw [if_neg (by omega), ht, hdr, if_pos rfl, hd, if_pos ⟨rfl, h.1, rfl⟩]

theorem decRS_some {m : Mx} (h : m.can) : decRS (encS m) = (m, true) := by
  unfold decRS
  rw [decR_inv h.1 h.2.1 h.2.2]
  show (if m.rightA = true ∧ encS m = encS m then (m, true) else (zeroMx, false)) = _
  rw [if_pos ⟨h.1, rfl⟩]

theorem decS_cases (b : List UInt8) (hb : b.length ≤ 90000) : (∃ m : Mx, m.can ∧ encS m = b ∧ decS b = (m, true)) ∨ ((∀ m : Mx, m.can → encS m ≠ b) ∧ decS b = (zeroMx, false)) := by
  by_cases h : ∃ m : Mx, m.can ∧ encS m = b
  · obtain ⟨m, hm, rfl⟩ := h
    exact .inl ⟨m, hm, rfl, decS_some hm⟩
  · refine .inr ⟨fun m hm e => h ⟨m, hm, e⟩, ?_⟩
    unfold decS
    split
    · rfl
    · split
      · split
        · rename_i h1 h2 h3
          exfalso
          have hf := decP_facts (b.take (b.length - 8)) (by simp; omega)
          exact h ⟨_, ⟨h3.2.1, hf.2.1, hf.2.2⟩, h3.2.2⟩
        · rfl
      · rfl

theorem decRS_eq (b : List UInt8) (hb : b.length ≤ 90000) : decRS b = decS b := by
  rcases decS_cases b hb with ⟨m, hm, rfl, h⟩ | ⟨hno, h⟩
  · rw [h, decRS_some hm]
  · rw [h]
    unfold decRS
    cases hd : decR b with
    | none => rfl
    | some m =>
      show (if m.rightA = true ∧ encS m = b then (m, true) else (zeroMx, false)) = _
      rw [if_neg]
      rintro ⟨h1, h2⟩
      refine hno m ⟨h1, ?_⟩ h2
      unfold decR at hd
      split at hd
      · cases hd
      · rename_i h16
        obtain ⟨X, hX⟩ : ∃ X, X = rowsR (numR (cellsR' (numR (numR ⟨b, true⟩).2).1 (numR (numR ⟨b, true⟩).2).2).2).1 (numR (numR ⟨b, true⟩).2).1 (numR (cellsR' (numR (numR ⟨b, true⟩).2).1 (numR (numR ⟨b, true⟩).2).2).2).2 := ⟨_, rfl⟩
        rw [← hX] at hd
        cases X with
        | none => cases hd
        | some x =>
          have hf := rowsR_facts _ _ _ _ (by omega) hX.symm
          have hkp := rowsR_kept _ _ _ _ hX.symm
          simp only [mkR, Option.some.injEq] at hd
          subst hd
          exact ⟨hf.2.2.1, cellsR'_kept _ _, hkp⟩

end Go.AM.Spec

namespace Go.AM.Spec
set_option linter.unusedVariables false
set_option linter.unusedSimpArgs false
set_option maxHeartbeats 1000000
set_option maxRecDepth 10000

theorem eqCe (a b : Ce) : eqCells [.int .i64, .int .i64, .int .u64, .int .i64, .int .i64, .int .i64] a.cells b.cells = some (decide (a = b)) := by
  obtain ⟨a1, a2, a3, a4, a5, a6⟩ := a
  obtain ⟨b1, b2, b3, b4, b5, b6⟩ := b
  simp [eqCells, Ce.cells, Bool.decide_and]

theorem eqSi {a b : Si} (ha : a.ok) (hb : b.ok) : eqCells [.int .i64, .int .i64, .int .i64, .int .i64, .int .i64, .int .i64, .int .i64, .int .i64, .int .i64, .int .i64, .int .i64] a.cells b.cells = some (decide (a = b)) := by
  have ha8 : a.way.length = 8 := ha
  have hb8 : b.way.length = 8 := hb
  rw [Si.cells_ints, Si.cells_ints, eq11' _ _ (by simp [Si.ints, ha8]) (by simp [Si.ints, hb8])]
  congr 1
  rw [decide_eq_decide]
  exact ⟨Si.ints_inj ha hb, fun h => by rw [h]⟩

theorem take_ext {α : Type} {l m : List α} {i : Nat} (hl : i < l.length) (hm : i < m.length) (h : l.take i = m.take i) (he : l[i] = m[i]) : l.take (i + 1) = m.take (i + 1) := by
  rw [List.take_add_one, List.take_add_one, h, List.getElem?_eq_getElem hl, List.getElem?_eq_getElem hm, he]

theorem sameC_loop (l m : List Ce) (hl : l.length ≤ 100000) (hlm : m.length = l.length) (H : Heap) (k : List Item) (R : Option (V × Heap)) (hyes : ∀ φ', l = m → M (eval tbl noExt) k φ' H = R) (hno : ∀ φ', l ≠ m → Fr.get φ' 4 = .bool false → retK k φ' H = R) :
    ∀ (n i : Nat) (φ : Fr), n + i = l.length → l.take i = m.take i → Fr.get φ 0 = .sl 6 (l.map Ce.cells) → Fr.get φ 1 = .sl 6 (m.map Ce.cells) → Fr.get φ 5 = .int .i64 i → M (eval tbl noExt) (.code l_flotsamref30_Same_0 :: .blk 0 :: k) φ H = R := by
  intro n
  induction n with
  | zero =>
    intro i φ hi ht h0 h1 h5
    have hlt : ¬ (i : Int) < l.length := by omega
    have hlt' : ¬ i < l.length := by omega
    rw [List.take_of_length_le (by omega), List.take_of_length_le (by omega)] at ht
    rw [l_flotsamref30_Same_0, M_loop]
    simp [b_flotsamref30_Same_0, h0, h1, h5, hlt, hlt']
    exact hyes _ ht
  | succ n ih =>
    intro i φ hi ht h0 h1 h5
    have hil : i < l.length := by omega
    have him : i < m.length := by omega
    have hlt : (i : Int) < l.length := by omega
    have hltm : (i : Int) < m.length := by omega
    have A6 := ar_succ i (by omega)
    obtain ⟨a, ha⟩ : ∃ a, a = l[i] := ⟨_, rfl⟩
    obtain ⟨b, hb⟩ : ∃ b, b = m[i] := ⟨_, rfl⟩
    have ga : ∀ h : i < l.length, l[i] = a := fun _ => ha.symm
    have gb : ∀ h : i < m.length, m[i] = b := fun _ => hb.symm
    have hE := eqCe a b
    have cl : ∀ c : Ce, c.cells.length = 6 := fun _ => rfl
    have ct : ∀ c : Ce, c.cells.take 6 = c.cells := fun c => List.take_of_length_le (by rw [cl]; exact Nat.le_refl _)
    have cs := fun c : Ce => Ce.strip c
    rw [l_flotsamref30_Same_0, M_loop, ← l_flotsamref30_Same_0]
    by_cases hab : a = b
    · rw [decide_eq_true hab] at hE
      simp [-arith, b_flotsamref30_Same_0, h0, h1, h5, hlt, hltm, hil, him, ga, gb, cl, ct, cs, hE, A6]
      exact ih (i + 1) _ (by omega) (take_ext hil him ht (by rw [← ha, ← hb, hab])) (by simp [h0]) (by simp [h1]) (by simp)
    · rw [decide_eq_false hab] at hE
      simp [-arith, b_flotsamref30_Same_0, h0, h1, h5, hlt, hltm, hil, him, ga, gb, cl, ct, cs, hE, A6]
      exact hno _ (fun h => by subst h; exact hab (by rw [ha, hb])) (by simp)

theorem sameC_eq (l m : List Ce) (hl : l.length ≤ 100000) (H : Heap) : eval tbl noExt n_flotsamref30_Same [.sl 6 (l.map Ce.cells), .sl 6 (m.map Ce.cells)] H = some (.bool (decide (l = m)), H) := by
  rw [eval_M rfl rfl t_flotsamref30_Same rfl]
  by_cases hlm : m.length = l.length
  · have hlm' : (l.length : Int) = m.length := by omega
    simp [c_flotsamref30_Same, hlm]
    refine sameC_loop l m hl hlm H _ _ (fun φ' h => ?_) (fun φ' h h4 => ?_) l.length 0 _ rfl (by simp) ?_ ?_ ?_
    · simp [r_flotsamref30_Same_0, h]
    · simp [h4, h]
    all_goals simp
  · have hlm' : ¬ (l.length : Int) = m.length := by omega
    have hlm2 : ¬ l.length = m.length := by omega
    have hne : ¬ l = m := fun h => hlm (by rw [h])
    simp [c_flotsamref30_Same, hlm', hlm2, hne]

def sameM (a b : Mx) : Bool := decide (a.bad = b.bad) && (decide (a.base = b.base) && (decide (a.sites = b.sites) && decide (a.rows = b.rows)))
theorem sameM_iff (a b : Mx) : sameM a b = true ↔ a = b := by
  obtain ⟨a1, a2, a3, a4⟩ := a
  obtain ⟨b1, b2, b3, b4⟩ := b
  simp [sameM]

theorem sameS_loop (a b : Mx) (hl : a.sites.length ≤ 100000) (hlm : b.sites.length = a.sites.length) (oka : ∀ s ∈ a.sites, s.ok) (okb : ∀ s ∈ b.sites, s.ok) (k : List Item) (R : Option (V × Heap))
    (hyes : ∀ φ', a.sites = b.sites → Fr.get φ' 2 = .ptr 0 0 → Fr.get φ' 3 = .ptr 1 0 → M (eval tbl noExt) k φ' [some a.cells, some b.cells] = R) (hno : ∀ φ', a.sites ≠ b.sites → Fr.get φ' 4 = .bool false → retK k φ' [some a.cells, some b.cells] = R) :
    ∀ (n i : Nat) (φ : Fr), n + i = a.sites.length → a.sites.take i = b.sites.take i → Fr.get φ 2 = .ptr 0 0 → Fr.get φ 3 = .ptr 1 0 → Fr.get φ 5 = .int .i64 i → M (eval tbl noExt) (.code l_flotsamref31_Same_0 :: .blk 0 :: k) φ [some a.cells, some b.cells] = R := by
  have hca : a.cells = [.bool a.bad, .sl 6 (a.base.map Ce.cells), .sl 11 (a.sites.map Si.cells), .sl 1 (a.rows.map rowV)] := rfl
  have hcb : b.cells = [.bool b.bad, .sl 6 (b.base.map Ce.cells), .sl 11 (b.sites.map Si.cells), .sl 1 (b.rows.map rowV)] := rfl
  intro n
  induction n with
  | zero =>
    intro i φ hi ht h2 h3 h5
    have hlt : ¬ (i : Int) < a.sites.length := by omega
    have hlt' : ¬ i < a.sites.length := by omega
    rw [List.take_of_length_le (by omega), List.take_of_length_le (by omega)] at ht
    rw [l_flotsamref31_Same_0, M_loop]
    simp [b_flotsamref31_Same_0, h2, h3, h5, hca, hlt, hlt']
    rw [← hca]
    exact hyes _ ht (by simp [h2]) (by simp [h3])
  | succ n ih =>
    intro i φ hi ht h2 h3 h5
    have hil : i < a.sites.length := by omega
    have him : i < b.sites.length := by omega
    have hlt : (i : Int) < a.sites.length := by omega
    have hltm : (i : Int) < b.sites.length := by omega
    have A6 := ar_succ i (by omega)
    obtain ⟨s, hs⟩ : ∃ s, s = a.sites[i] := ⟨_, rfl⟩
    obtain ⟨t, htt⟩ : ∃ b', b' = b.sites[i] := ⟨_, rfl⟩
    have ga : ∀ h : i < a.sites.length, a.sites[i] = s := fun _ => hs.symm
    have gb : ∀ h : i < b.sites.length, b.sites[i] = t := fun _ => htt.symm
    have os := oka s (by rw [hs]; exact List.getElem_mem _)
    have ot := okb t (by rw [htt]; exact List.getElem_mem _)
    have hE := eqSi os ot
    have q1 := Si.len os
    have q3 := Si.strip (s := s)
    have q5 := Si.take os
    have r1 := Si.len ot
    have r3 := Si.strip (s := t)
    have r5 := Si.take ot
    rw [l_flotsamref31_Same_0, M_loop, ← l_flotsamref31_Same_0]
    by_cases hab : s = t
    · rw [decide_eq_true hab] at hE
      simp [-arith, b_flotsamref31_Same_0, h2, h3, h5, hca, hcb, hlt, hltm, hil, him, ga, gb, q1, q3, q5, r1, r3, r5, hE, A6]
      rw [← hca, ← hcb]
      exact ih (i + 1) _ (by omega) (take_ext hil him ht (by rw [← hs, ← htt, hab])) (by simp [h2]) (by simp [h3]) (by simp)
    · rw [decide_eq_false hab] at hE
      simp [-arith, b_flotsamref31_Same_0, h2, h3, h5, hca, hcb, hlt, hltm, hil, him, ga, gb, q1, q3, q5, r1, r3, r5, hE, A6]
      rw [← hca, ← hcb]
      exact hno _ (fun h => hab (by rw [hs, htt]; simp [h])) (by simp)

theorem sameR_loop (a b : Mx) (hl : a.rows.length ≤ 100000) (hlm : b.rows.length = a.rows.length) (hrow : ∀ r ∈ a.rows, r.length ≤ 100000) (k : List Item) (R : Option (V × Heap))
    (hyes : ∀ φ', a.rows = b.rows → M (eval tbl noExt) k φ' [some a.cells, some b.cells] = R) (hno : ∀ φ', a.rows ≠ b.rows → Fr.get φ' 4 = .bool false → retK k φ' [some a.cells, some b.cells] = R) :
    ∀ (n i : Nat) (φ : Fr), n + i = a.rows.length → a.rows.take i = b.rows.take i → Fr.get φ 2 = .ptr 0 0 → Fr.get φ 3 = .ptr 1 0 → Fr.get φ 6 = .int .i64 i → M (eval tbl noExt) (.code l_flotsamref31_Same_1 :: .blk 2 :: k) φ [some a.cells, some b.cells] = R := by
  have hca : a.cells = [.bool a.bad, .sl 6 (a.base.map Ce.cells), .sl 11 (a.sites.map Si.cells), .sl 1 (a.rows.map rowV)] := rfl
  have hcb : b.cells = [.bool b.bad, .sl 6 (b.base.map Ce.cells), .sl 11 (b.sites.map Si.cells), .sl 1 (b.rows.map rowV)] := rfl
  intro n
  induction n with
  | zero =>
    intro i φ hi ht h2 h3 h6
    have hlt : ¬ (i : Int) < a.rows.length := by omega
    have hlt' : ¬ i < a.rows.length := by omega
    rw [List.take_of_length_le (by omega), List.take_of_length_le (by omega)] at ht
    rw [l_flotsamref31_Same_1, M_loop]
    simp [b_flotsamref31_Same_1, h2, h3, h6, hca, hlt, hlt']
    rw [← hca]
    exact hyes _ ht
  | succ n ih =>
    intro i φ hi ht h2 h3 h6
    have hil : i < a.rows.length := by omega
    have him : i < b.rows.length := by omega
    have hlt : (i : Int) < a.rows.length := by omega
    have hltm : (i : Int) < b.rows.length := by omega
    have A6 := ar_succ i (by omega)
    obtain ⟨s, hs⟩ : ∃ s, s = a.rows[i] := ⟨_, rfl⟩
    obtain ⟨t, htt⟩ : ∃ b', b' = b.rows[i] := ⟨_, rfl⟩
    have ga : ∀ h : i < a.rows.length, a.rows[i] = s := fun _ => hs.symm
    have gb : ∀ h : i < b.rows.length, b.rows[i] = t := fun _ => htt.symm
    have hE := sameC_eq s t (hrow s (by rw [hs]; exact List.getElem_mem _)) []
    rw [l_flotsamref31_Same_1, M_loop, ← l_flotsamref31_Same_1]
    by_cases hab : s = t
    · rw [decide_eq_true hab] at hE
      simp [-arith, b_flotsamref31_Same_1, h2, h3, h6, hca, hcb, hlt, hltm, hil, him, ga, gb, rowV, hE, A6, lt_flotsamref30_Same]
      have := ih (i + 1) [(6, .int .i64 ((i + 1 : Nat) : Int)), (2, .ptr 0 0), (3, .ptr 1 0)] (by omega) (take_ext hil him ht (by rw [← hs, ← htt, hab])) (by simp) (by simp) (by simp)
      refine ih (i + 1) _ (by omega) (take_ext hil him ht (by rw [← hs, ← htt, hab])) ?_ ?_ ?_ <;> simp [h2, h3]
    · rw [decide_eq_false hab] at hE
      simp [-arith, b_flotsamref31_Same_1, h2, h3, h6, hca, hcb, hlt, hltm, hil, him, ga, gb, rowV, hE, A6, lt_flotsamref30_Same]
      refine hno _ (fun h => hab (by rw [hs, htt]; simp [h])) ?_
      simp

theorem Same_eq (a b : Mx) (ha : a.base.length ≤ 100000 ∧ a.sites.length ≤ 100000 ∧ a.rows.length ≤ 100000 ∧ ∀ r ∈ a.rows, r.length ≤ 100000) (oka : ∀ s ∈ a.sites, s.ok) (okb : ∀ s ∈ b.sites, s.ok) : eval tbl noExt n_flotsamref31_Same [.agg a.cells, .agg b.cells] [] = some (.bool (sameM a b), []) := by
  have hca : a.cells = [.bool a.bad, .sl 6 (a.base.map Ce.cells), .sl 11 (a.sites.map Si.cells), .sl 1 (a.rows.map rowV)] := rfl
  have hcb : b.cells = [.bool b.bad, .sl 6 (b.base.map Ce.cells), .sl 11 (b.sites.map Si.cells), .sl 1 (b.rows.map rowV)] := rfl
  obtain ⟨h1, h2, h3, h4⟩ := ha
  obtain ⟨S, hS⟩ : ∃ S, S = sameM a b := ⟨_, rfl⟩
  have hS2 := hS
  unfold sameM at hS2
  rw [← hS]
  have hE := sameC_eq a.base b.base h1 []
  rw [eval_M rfl rfl t_flotsamref31_Same rfl]
  by_cases e1 : a.bad = b.bad
  · by_cases e2 : a.base = b.base
    · rw [decide_eq_true e2] at hE
      by_cases e3 : a.sites.length = b.sites.length
      · have e3' : (a.sites.length : Int) = b.sites.length := by omega
        by_cases e4 : a.rows.length = b.rows.length
        · have e4' : (a.rows.length : Int) = b.rows.length := by omega
          rw [decide_eq_true e1, decide_eq_true e2, Bool.true_and, Bool.true_and] at hS2
          simp [c_flotsamref31_Same, hca, hcb, e1, hE, e3, e4, e3', e4', lt_flotsamref30_Same]
          have := sameS_loop a b h2 e3.symm oka okb [.code r_flotsamref31_Same_1, .fin [.t 4] 0] (some (.bool S, [])) (fun φ' hs g2 g3 => by
            have hR := sameR_loop a b h3 e4.symm h4 [.code r_flotsamref31_Same_0, .fin [.t 4] 0] (some (.bool S, [])) (fun φ'' hr => by
              rw [decide_eq_true hs, decide_eq_true hr, Bool.and_self] at hS2
              simp [r_flotsamref31_Same_0, hS2]) (fun φ'' hr g4 => by
              rw [decide_eq_false hr, Bool.and_false] at hS2
              simp [g4, hS2])
            simp [r_flotsamref31_Same_1]
            exact hR a.rows.length 0 _ rfl (by simp) (by simp [g2]) (by simp [g3]) (by simp)) (fun φ' hs g4 => by
            rw [decide_eq_false hs, Bool.false_and] at hS2
            simp [g4, hS2])
          have h5 := fun φ => this a.sites.length 0 φ rfl (by simp)
          rw [hca, hcb] at h5
          have h6 := fun φ g2 g3 g5 => h5 φ g2 g3 g5
          rw [e1] at h6
          refine h6 _ ?_ ?_ ?_ <;> simp
        · have e4' : ¬ (a.rows.length : Int) = b.rows.length := by omega
          have e5 : ¬ a.rows = b.rows := fun h => e4 (by rw [h])
          rw [decide_eq_false e5, Bool.and_false, Bool.and_false, Bool.and_false] at hS2
          simp [c_flotsamref31_Same, hca, hcb, e1, hE, e3, e4, e3', e4', lt_flotsamref30_Same, hS2]
      · have e3' : ¬ (a.sites.length : Int) = b.sites.length := by omega
        have e5 : ¬ a.sites = b.sites := fun h => e3 (by rw [h])
        rw [decide_eq_false e5, Bool.false_and, Bool.and_false, Bool.and_false] at hS2
        simp [c_flotsamref31_Same, hca, hcb, e1, hE, e3, e3', lt_flotsamref30_Same, hS2]
    · rw [decide_eq_false e2] at hE
      rw [decide_eq_false e2, Bool.false_and, Bool.and_false] at hS2
      simp [c_flotsamref31_Same, hca, hcb, e1, hE, lt_flotsamref30_Same, hS2]
  · rw [decide_eq_false e1, Bool.false_and] at hS2
    simp [c_flotsamref31_Same, hca, hcb, e1, hS2]

end Go.AM.Spec

namespace Go.AM.Spec
set_option linter.unusedVariables false
set_option linter.unusedSimpArgs false
set_option maxHeartbeats 4000000
set_option maxRecDepth 10000

theorem knows34 : eval tbl noExt n_flotsamlaw34_knows [] [] = some (.bool true, []) := (eval_iff ..).2 ⟨400, by kernel_rfl⟩

theorem Mx.kept_of {m : Mx} (h : m.fit) : (∀ c ∈ m.base, 0 ≤ c.kept) ∧ ∀ r ∈ m.rows, ∀ c ∈ r, 0 ≤ c.kept := by
  have hw : ∀ x : Int, (Lit.int .u64 x).wf = true → 0 ≤ x := by
    intro x hx
    simp [Lit.wf, IntKind.min, IntKind.signed] at hx
    omega
  exact ⟨fun c hc => hw _ (h.1 c hc).2.2.1, fun r hr c hc => hw _ (h.2.2.1 r hr c hc).2.2.1⟩

theorem Mx.can_nat {m : Mx} (h : m.can) : m.nat := Mx.nat_of h.1 h.2.2

theorem Mx.can_few {m : Mx} (h : m.can) : m.few := by
  have hn := Mx.can_nat h
  have := hn.len; have := hn.sites; have := hn.base16
  exact ⟨by omega, by omega, by omega, fun r hr => by have := (hn.row r hr).1; omega⟩

theorem encS_len {m : Mx} (h : m.can) (h50 : m.sites.length ≤ 50) : (encS m).length ≤ 90000 := by
  have hm := Mx.can_nat h
  have hok := h.2.1
  have h1 := rowsN_len hm hok m.sites m.rows (fun _ h => h) (fun _ h => h)
  have h2 := rowsN_lt hm m.sites m.rows (fun _ h => h) (fun _ h => h)
  have h3 := cellsN_len m.base
  have h4 := cellsN_lt hm.base
  have h5 := hm.base16
  have h6 := hm.sites
  have := numsB_len (matN m) (fun n hn => by
    simp only [matN, List.mem_cons, List.mem_append] at hn
    rcases hn with rfl | rfl | hn | rfl | hn
    · split <;> omega
    · omega
    · have := h4 n hn; omega
    · omega
    · have := h2 n hn; omega)
  have hl : (matN m).length ≤ 3 + (cellsN m.base).length + (rowsN m.sites m.rows).length := by simp [matN]; omega
  have : (encS m).length = (encB m).length + 8 := by simp [encS, sealS_len]
  unfold encB at this
  omega

/-- What decoding answers, as a matrix one may go on with. -/
theorem decS_sizes (b : List UInt8) (hb : b.length ≤ 90000) : (decS b).1.few ∧ (∀ s ∈ (decS b).1.sites, s.ok) ∧ ((∀ c ∈ (decS b).1.base, 0 ≤ c.kept) ∧ ∀ r ∈ (decS b).1.rows, ∀ c ∈ r, 0 ≤ c.kept) ∧ ((decS b).1.base.length ≤ 100000 ∧ (decS b).1.sites.length ≤ 100000 ∧ (decS b).1.rows.length ≤ 100000 ∧ ∀ r ∈ (decS b).1.rows, r.length ≤ 100000) := by
  rcases decS_cases b hb with ⟨m, hm, _, h⟩ | ⟨_, h⟩
  · have hf := Mx.can_few hm
    rw [h]
    obtain ⟨f1, f2, f3, f4⟩ := hf
    exact ⟨⟨f1, f2, f3, f4⟩, hm.2.1, hm.2.2, by dsimp only; omega, by dsimp only; omega, by dsimp only; omega, fun r hr => by have := f4 r hr; omega⟩
  · rw [h]
    exact ⟨⟨by simp [zeroMx], by simp [zeroMx], by simp [zeroMx], by simp [zeroMx]⟩, by simp [zeroMx], ⟨by simp [zeroMx], by simp [zeroMx]⟩, by simp [zeroMx], by simp [zeroMx], by simp [zeroMx], by simp [zeroMx]⟩

theorem PackTells_eq (m : Mx) (hf : m.fit) (b : List UInt8) (hb : Len b.length) : ∃ H', eval tbl noExt n_flotsamlaw34_PackTells [.agg m.cells, .sl 1 (bytesRows b)] [] = some (.bool true, H') := by
  refine ⟨[], ?_⟩
  have hnil : rowsBytes [] = some [] := rfl
  have hk := knows34
  have hF := Few_eq m []
  have hcl : m.cells.length = 4 := rfl
  have hct : m.cells.take 4 = m.cells := rfl
  have hcs : m.cells.map V.strip = m.cells := rfl
  have hcu : ∀ n, V.underAll n m.cells = true := fun n => rfl
  rw [eval_M rfl rfl t_flotsamlaw34_PackTells rfl]
  cases hbf : m.fewB with
  | false =>
    rw [hbf] at hF
    simp [c_flotsamlaw34_PackTells, hcl, hct, hcs, hcu, hF, hk, bytesRows_len]
  | true =>
    rw [hbf] at hF
    by_cases h2000 : 2000 < b.length
    · have h2' : (2000 : Int) < b.length := by omega
      simp [c_flotsamlaw34_PackTells, hcl, hct, hcs, hcu, hF, hk, bytesRows_len, h2', h2000]
    · have h2' : ¬ (2000 : Int) < b.length := by omega
      have hm := Mx.few_of hbf
      have hok : ∀ s ∈ m.sites, s.ok := fun s hs => (hf.2.1 s hs).1
      have hkp := Mx.kept_of hf
      have h1 := Encode_eq m (.inl hm) hok hkp
      have h2 := refEncode_eq m (.inl hm) hok hkp
      have h3 := Decode_eq b (by omega)
      have h4 := refDecode_eq b (by omega)
      rw [decRS_eq b (by omega)] at h4
      obtain ⟨f1, f2, f3, f4⟩ := decS_sizes b (by omega)
      have h5 := Same_eq (decS b).1 (decS b).1 f4 f2 f2
      have h6 := sum34_eq b (by omega) []
      have h7 := refSum34_eq b (by omega) []
      obtain ⟨u, ok, hu⟩ : ∃ u ok, decS b = (u, ok) := ⟨_, _, rfl⟩
      rw [hu] at h3 h4 h5
      rw [(sameM_iff u u).2 rfl] at h5
      have huc : u.cells = [.bool u.bad, .sl 6 (u.base.map Ce.cells), .sl 11 (u.sites.map Si.cells), .sl 1 (u.rows.map rowV)] := rfl
      simp only [decV] at h3 h4
      rw [huc] at h3 h4 h5
      by_cases hr : m.rightA = true
      · simp only [encV, if_pos hr] at h1 h2
        simp [c_flotsamlaw34_PackTells, hcl, hct, hcs, hcu, hF, hk, bytesRows_len, h2', h2000, h1, h2, h3, h4, h5, h6, h7, rowsBytes_of, hnil]
      · simp only [encV, if_neg hr] at h1 h2
        simp [c_flotsamlaw34_PackTells, hcl, hct, hcs, hcu, hF, hk, bytesRows_len, h2', h2000, h1, h2, h3, h4, h5, h6, h7, rowsBytes_of, hnil]

/-- What encoding answers: the bytes, and whether there are any. -/
def encP (m : Mx) : List UInt8 × Bool := if m.rightA = true then (encS m, true) else ([], false)
theorem encV_P (m : Mx) : encV m = .tup [.sl 1 (bytesRows (encP m).1), .bool (encP m).2] := by
  unfold encV encP
  split <;> rfl
theorem encP_right (m : Mx) : (encP m).2 = m.rightA := by
  unfold encP
  split
  · simp [*]
  · simp [*]

theorem zero_same : sameM zeroMx zeroMx = true := (sameM_iff _ _).2 rfl

theorem encS_same {m n : Mx} (hm : m.can) (hn : n.can) : decide (encS m = encS n) = sameM m n := by
  by_cases h : m = n
  · subst h
    rw [(sameM_iff m m).2 rfl]; simp
  · have h1 : ¬ encS m = encS n := fun e => by
      have a := decS_some hm
      rw [e, decS_some hn] at a
      exact h (by injection a with a _; exact a.symm)
    have h2 : sameM m n = false := by
      cases hs : sameM m n
      · rfl
      · exact absurd ((sameM_iff m n).1 hs) h
    rw [h2]; simp [h1]

theorem PackBack_eq (m : Mx) (hf : m.fit) (n : Mx) (hg : n.fit) (b : List UInt8) (hb : Len b.length) : ∃ H', eval tbl noExt n_flotsamlaw34_PackBack [.agg m.cells, .agg n.cells, .sl 1 (bytesRows b)] [] = some (.bool true, H') := by
  refine ⟨[], ?_⟩
  have hnil : rowsBytes [] = some [] := rfl
  have hk := knows34
  have hF := Few_eq m []
  have hG := Few_eq n []
  have hcl : m.cells.length = 4 := rfl
  have hct : m.cells.take 4 = m.cells := rfl
  have hcs : m.cells.map V.strip = m.cells := rfl
  have hcu : ∀ k, V.underAll k m.cells = true := fun n => rfl
  have hdl : n.cells.length = 4 := rfl
  have hdt : n.cells.take 4 = n.cells := rfl
  have hds : n.cells.map V.strip = n.cells := rfl
  have hdu : ∀ k, V.underAll k n.cells = true := fun n => rfl
  rw [eval_M rfl rfl t_flotsamlaw34_PackBack rfl]
  cases hbf : m.fewB with
  | false =>
    rw [hbf] at hF
    simp [c_flotsamlaw34_PackBack, hcl, hct, hcs, hcu, hdl, hdt, hds, hdu, hF, hk, bytesRows_len]
  | true =>
  rw [hbf] at hF
  cases hbg : n.fewB with
  | false =>
    rw [hbg] at hG
    simp [c_flotsamlaw34_PackBack, hcl, hct, hcs, hcu, hdl, hdt, hds, hdu, hF, hG, hk, bytesRows_len]
  | true =>
  rw [hbg] at hG
  by_cases h2000 : 2000 < b.length
  · have h2' : (2000 : Int) < b.length := by omega
    simp [c_flotsamlaw34_PackBack, hcl, hct, hcs, hcu, hdl, hdt, hds, hdu, hF, hG, hk, bytesRows_len, h2', h2000]
  · have h2' : ¬ (2000 : Int) < b.length := by omega
    have hm := Mx.few_of hbf
    have hn := Mx.few_of hbg
    have okm : ∀ s ∈ m.sites, s.ok := fun s hs => (hf.2.1 s hs).1
    have okn : ∀ s ∈ n.sites, s.ok := fun s hs => (hg.2.1 s hs).1
    have km := Mx.kept_of hf
    have kn := Mx.kept_of hg
    have m50 : m.sites.length ≤ 50 := by
      simp only [Mx.fewB, Bool.and_eq_true, decide_eq_true_eq] at hbf
      exact hbf.2.2.1
    have h1 := Encode_eq m (.inl hm) okm km
    have h2 := Encode_eq n (.inl hn) okn kn
    rw [encV_P] at h1 h2
    have hx : (encP m).1.length ≤ 90000 := by
      unfold encP
      split
      · exact encS_len ⟨‹_›, okm, km⟩ m50
      · simp
    have h3 := Decode_eq (encP m).1 hx
    have h4 := Decode_eq b (by omega)
    obtain ⟨f1, f2, f3, f4⟩ := decS_sizes b (by omega)
    obtain ⟨g1, g2, g3, g4⟩ := decS_sizes (encP m).1 hx
    have h5 := Encode_eq (decS b).1 (.inl f1) f2 f3
    rw [encV_P] at h5
    have h6 := SRight_A m (.inl hm) okm []
    have h7 := SRight_A (decS b).1 (.inl f1) f2 []
    have h8 := Same_eq (decS (encP m).1).1 m g4 g2 okm
    obtain ⟨b1, b2, b3, b4⟩ := hm
    have h9 := Same_eq m n ⟨by omega, by omega, by omega, fun r hr => by have := b4 r hr; omega⟩ okm okn
    have h10 := Same_eq (decS b).1 zeroMx f4 f2 (by simp [zeroMx])
    have hzc : zeroMx.cells = [.bool false, .sl 6 [], .sl 11 [], .sl 1 []] := rfl
    rw [hzc] at h10
    -- what the parts say of one another
    have p1 : (encP m).2 = m.rightA := encP_right m
    have p2 : (encP m).2 = true → (decS (encP m).1).2 = true ∧ sameM (decS (encP m).1).1 m = true := by
      intro h
      rw [p1] at h
      unfold encP
      rw [if_pos h, decS_some ⟨h, okm, km⟩]
      exact ⟨rfl, (sameM_iff m m).2 rfl⟩
    have p3 : (encP m).2 = true → (encP n).2 = true → decide ((encP m).1 = (encP n).1) = sameM m n := by
      intro h k
      rw [p1] at h
      rw [encP_right] at k
      unfold encP
      rw [if_pos h, if_pos k]
      exact encS_same ⟨h, okm, km⟩ ⟨k, okn, kn⟩
    have p4 : ((decS b).2 = false ∧ sameM (decS b).1 zeroMx = true) ∨ ((decS b).2 = true ∧ encP (decS b).1 = (b, true) ∧ (decS b).1.rightA = true) := by
      rcases decS_cases b (by omega) with ⟨v, hv, he, h⟩ | ⟨_, h⟩
      · rw [h]
        exact .inr ⟨rfl, by unfold encP; rw [if_pos hv.1, he], hv.1⟩
      · rw [h]
        exact .inl ⟨rfl, zero_same⟩
    clear hf hg g1 g2 g3 g4 f1 f2 f3 f4 b1 b2 b3 b4 km kn okm okn hx
    obtain ⟨x, xo, hxo⟩ : ∃ x xo, encP m = (x, xo) := ⟨_, _, rfl⟩
    obtain ⟨y, yo, hyo⟩ : ∃ x xo, encP n = (x, xo) := ⟨_, _, rfl⟩
    rw [hxo] at h1 h3 h8 p1 p2 p3
    rw [hyo] at h2 p3
    obtain ⟨u, uo, huo⟩ : ∃ u uo, decS x = (u, uo) := ⟨_, _, rfl⟩
    obtain ⟨v, vo, hvo⟩ : ∃ v vo, decS b = (v, vo) := ⟨_, _, rfl⟩
    dsimp only at h1 h2 h3 h8 p1 p2 p3
    rw [huo] at h3 h8 p2
    rw [hvo] at h4 h5 h7 h10 p4
    dsimp only at h3 h4 h5 h7 h8 h10 p2 p4
    have huc : u.cells = [.bool u.bad, .sl 6 (u.base.map Ce.cells), .sl 11 (u.sites.map Si.cells), .sl 1 (u.rows.map rowV)] := rfl
    have hvc : v.cells = [.bool v.bad, .sl 6 (v.base.map Ce.cells), .sl 11 (v.sites.map Si.cells), .sl 1 (v.rows.map rowV)] := rfl
    simp only [decV] at h3 h4
    rw [huc] at h3 h8
    rw [hvc] at h4 h5 h7 h10
    rcases p4 with ⟨rfl, q1⟩ | ⟨rfl, q1, q2⟩
    · rw [q1] at h10
      cases xo with
      | false =>
        rw [← p1] at h6
        simp [c_flotsamlaw34_PackBack, hcl, hct, hcs, hcu, hdl, hdt, hds, hdu, hF, hG, hk, bytesRows_len, h2', h2000, h1, h2, h3, h4, h5, h6, h7, h8, h9, h10, rowsBytes_of, hnil]
      | true =>
        obtain ⟨rfl, q3⟩ := p2 rfl
        rw [q3] at h8
        rw [← p1] at h6
        cases yo with
        | false =>
          simp [c_flotsamlaw34_PackBack, hcl, hct, hcs, hcu, hdl, hdt, hds, hdu, hF, hG, hk, bytesRows_len, h2', h2000, h1, h2, h3, h4, h5, h6, h7, h8, h9, h10, rowsBytes_of, hnil]
        | true =>
          have q4 := p3 rfl rfl
          rw [← q4] at h9
          simp [c_flotsamlaw34_PackBack, hcl, hct, hcs, hcu, hdl, hdt, hds, hdu, hF, hG, hk, bytesRows_len, h2', h2000, h1, h2, h3, h4, h5, h6, h7, h8, h9, h10, rowsBytes_of, hnil]
    · rw [q1] at h5
      rw [q2] at h7
      dsimp only at h5
      cases xo with
      | false =>
        rw [← p1] at h6
        simp [c_flotsamlaw34_PackBack, hcl, hct, hcs, hcu, hdl, hdt, hds, hdu, hF, hG, hk, bytesRows_len, h2', h2000, h1, h2, h3, h4, h5, h6, h7, h8, h9, h10, rowsBytes_of, hnil]
      | true =>
        obtain ⟨rfl, q3⟩ := p2 rfl
        rw [q3] at h8
        rw [← p1] at h6
        cases yo with
        | false =>
          simp [c_flotsamlaw34_PackBack, hcl, hct, hcs, hcu, hdl, hdt, hds, hdu, hF, hG, hk, bytesRows_len, h2', h2000, h1, h2, h3, h4, h5, h6, h7, h8, h9, h10, rowsBytes_of, hnil]
        | true =>
          have q4 := p3 rfl rfl
          rw [← q4] at h9
          simp [c_flotsamlaw34_PackBack, hcl, hct, hcs, hcu, hdl, hdt, hds, hdu, hF, hG, hk, bytesRows_len, h2', h2000, h1, h2, h3, h4, h5, h6, h7, h8, h9, h10, rowsBytes_of, hnil]

end Go.AM.Spec

namespace Go.AM
open Go.ChangeShapes Go.WideShapes Go.Deep
set_option linter.unusedVariables false
namespace Spec
section
variable {P : Program}

theorem rows_of {e : TypeId} (he : P.underlying e = some (.int .u8)) : ∀ {rows : List (List V)}, (∀ p ∈ rows, Ty P e p) → ∃ l : List UInt8, rows = bytesRows l
  | [], _ => ⟨[], rfl⟩
  | p :: rows, h => by
    obtain ⟨l, h1⟩ := rows_of he (rows := rows) (fun q hq => h q (by simp [hq]))
    obtain ⟨n, rfl, hw⟩ := Ty_int_of (h p (by simp)) he
    have hr : 0 ≤ n ∧ n < 256 := by
      simp only [Lit.wf, Bool.and_eq_true, decide_eq_true_eq] at hw
      rw [show IntKind.u8.min = 0 from rfl, show IntKind.u8.max = 255 from rfl] at hw
      omega
    refine ⟨UInt8.ofNat n.toNat :: l, ?_⟩
    have e1 : ((UInt8.ofNat n.toNat).toNat : Int) = n := by
      rw [UInt8.toNat_ofNat']
      omega
    rw [h1]
    show [V.int .u8 n] :: bytesRows l = [V.int .u8 ((UInt8.ofNat n.toNat).toNat : Int)] :: bytesRows l
    rw [e1]

/-- An argument that is a list of bytes. -/
theorem blist_of {H : Type} {enc : TypeId × Value → H} {w : World} {ts : List TypeId} (hts : ∀ t ∈ ts, plainAt P ts t = true) {t e : TypeId} (ht : t ∈ ts) (hu : P.underlying t = some (.slice e)) (hb : P.underlying e = some (.int .u8)) (hc : P.cellsOf e = 1)
    {r : Reach} {b0 : Nat} {v : Value} {d : DataW H} {p : List MemPlace} (hv : Value.okWide P w r b0 t v) (h : DataW.Trod enc P w 0 (fun _ => true) true t v d p) :
    ∃ l : List UInt8, Len l.length ∧ R w (fun _ _ => False) [] (.sl 1 (bytesRows l)) v := by
  obtain ⟨a, len, cap, rfl⟩ := okWide_slice hu hv
  obtain ⟨vs, hty, hpr⟩ := open_list hts ht hu (v := .slice a len cap) rfl h
  obtain ⟨rows, hr, hl, hel⟩ := Ty_sl_of hty hu
  obtain ⟨l, rfl⟩ := rows_of hb hel
  cases hr
  rw [hc] at hpr
  exact ⟨l, by rw [bytesRows_len] at hl; exact hl, .pr hpr⟩
end
end Spec
end Go.AM
