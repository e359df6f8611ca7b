/-
  Sites: what is read of a text, in the program.
-/
import Derived.Test.YtjbedlhjjhnciaaDoorSiteE
namespace Go.AM.Spec
set_option linter.unusedVariables false
set_option linter.unusedSimpArgs false
set_option maxHeartbeats 1000000
set_option maxRecDepth 10000

theorem zero_cells_eq : [V.int .i64 0, V.int .i64 0, V.int .i64 0, V.int .i64 0, V.int .i64 0, V.int .i64 0, V.int .i64 0, V.int .i64 0, V.int .i64 0, V.int .i64 0, V.int .i64 0] = zeroSi.cells := rfl
theorem zeroSi_ok : zeroSi.ok := rfl

theorem rnums_loop (H : Heap) (L : List (List UInt8)) (hL : L.length ≤ 9) (Q : Option (V × Heap) → Prop) (k : List Item) (X : Option Si)
    (hyes : ∀ φ' s', X = some s' → s'.ok → Fr.get φ' 2 = .ptr H.length 0 → Fr.get φ' 5 = .ptr (H.length + 1) 0 → Q (M (eval tbl noExt) k φ' (H ++ [some zeroSi.cells, some s'.cells])))
    (hno : ∀ φ' s', X = none → Fr.get φ' 2 = .ptr H.length 0 → Fr.get φ' 3 = .bool false → Q (retK k φ' (H ++ [some zeroSi.cells, some s']))) :
    ∀ (j i : Nat) (φ : Fr) (s : Si), i + j = L.length → s.ok → readNums s i (L.drop i) = X → Fr.get φ 2 = .ptr H.length 0 → Fr.get φ 5 = .ptr (H.length + 1) 0 → Fr.get φ 45 = .sl 1 (L.map tx) → Fr.get φ 46 = iv L.length → Fr.get φ 47 = iv i →
      Q (M (eval tbl noExt) (.code l_site_Read_1 :: .blk 2 :: k) φ (H ++ [some zeroSi.cells, some s.cells])) := by
  intro j
  induction j with
  | zero =>
    intro i φ s hi ok hX h2 h5 h45 h46 h47
    have hlt : ¬ (i : Int) < L.length := by omega
    rw [List.drop_eq_nil_of_le (by omega)] at hX
    rw [l_site_Read_1, M_loop]
    simp [b_site_Read_1, h2, h5, h45, h46, h47, hlt]
    exact hyes _ s hX.symm ok (by simp [h2]) (by simp [h5])
  | succ j ih =>
    intro i φ s hi ok hX h2 h5 h45 h46 h47
    have hlt : i < L.length := by omega
    obtain ⟨u, hu⟩ : ∃ u, u = L[i] := ⟨_, rfl⟩
    have hu' : L[i]? = some u := by rw [hu]; exact List.getElem?_eq_getElem hlt
    rw [List.drop_eq_getElem_cons hlt, ← hu, readNums] at hX
    have htw : tx u = [V.str u] := rfl
    have hr : (L.map tx)[i]? = some (tx u) := by rw [tx_get, hu']; rfl
    have hg : ∀ h : i < L.length, L[i] = u := fun h => hu.symm
    have e1 : (i : Int) < L.length := by omega
    have e2 : IntKind.i64.wrap ((i : Int) + 1) = ((i + 1 : Nat) : Int) := by rw [w64] <;> omega
    have hrd := fun K => read_eq K u
    have hsm := read_small u
    have hc := Si.len ok
    rw [l_site_Read_1, M_loop, ← l_site_Read_1]
    by_cases hok : numOK u = true
    · rw [if_pos hok] at hX
      unfold numOK at hok
      simp only [Bool.and_eq_true, decide_eq_true_eq] at hok
      obtain ⟨b1, b2⟩ := hok
      have b3 : ¬ 511 < (readR u).1 := by omega
      cases i with
      | zero =>
        have hs1 := Si.put1 s (readR u).1
        simp [b_site_Read_1, h2, h5, h45, h46, h47, hr, e1, e2, htw, hg, hlt, hrd, b1, b3, hc, hs1]
        refine ih 1 _ (s.putN 0 (readR u).1) (by omega) (Si.ok_putN ok _ _) hX ?_ ?_ ?_ ?_ ?_ <;> simp [h2, h5, h45, h46, w64]
      | succ m =>
        have hs2 := Si.put2 ok (i := m) (by omega) (readR u).1
        have e3 : IntKind.i64.wrap (((m + 1 : Nat) : Int) - 1) = (m : Int) := by rw [w64] <;> omega
        have e3' : IntKind.i64.wrap ((m : Int) + 1 - 1) = (m : Int) := by rw [w64] <;> omega
        have e4 : (m : Int) < 8 := by omega
        have e5 : ¬ ((m : Int) + 1 = 0) := by omega
        have e6 : (m : Int) + 1 < L.length := by omega
        have e7 : (0 : Int) ≤ (m : Int) + 1 := by omega
        have e8 : IntKind.i64.wrap ((m : Int) + 1 + 1) = (m : Int) + 1 + 1 := by rw [w64] <;> omega
        have e9 : 2 + m + 1 ≤ 11 := by omega
        have e10 : 2 + m < 11 := by omega
        have e12 : IntKind.i64.wrap (m : Int) = (m : Int) := by rw [w64] <;> omega
        have e11 : ((m : Int) + 1).toNat = m + 1 := by omega
        simp [b_site_Read_1, h2, h5, h45, h46, h47, hr, e1, e2, e3, e3', e4, e5, e6, e7, e8, e9, e10, e11, e12, htw, hg, hlt, hrd, b1, b3, hc, hs2]
        refine ih (m + 1 + 1) _ (s.putN (m + 1) (readR u).1) (by omega) (Si.ok_putN ok _ _) hX ?_ ?_ ?_ ?_ ?_ <;> simp [h2, h5, h45, h46]
    · rw [if_neg hok] at hX
      have hz := h11 zeroSi zeroSi_ok
      have hz2 : zeroSi.cells.length = 11 := rfl
      have hz3 : setMany zeroSi.cells 0 zeroSi.cells = zeroSi.cells := rfl
      have hz4 : V.underAll (H.length + 1) zeroSi.cells = true := rfl
      have hz5 : zeroSi.cells.all V.one = true := rfl
      have hzc := zero_cells_eq
      cases b1 : (readR u).2 with
      | false =>
        simp [b_site_Read_1, h2, h5, h45, h46, h47, hr, e1, e2, htw, hg, hlt, hrd, b1, hzc, hz2, hz3, hz4, hz5]
        exact hno _ s.cells hX.symm (by simp [h2]) (by simp)
      | true =>
        have b3 : 511 < (readR u).1 := by
          unfold numOK at hok
          simp only [b1, Bool.true_and, decide_eq_true_eq] at hok
          omega
        simp [b_site_Read_1, h2, h5, h45, h46, h47, hr, e1, e2, htw, hg, hlt, hrd, b1, b3, hzc, hz2, hz3, hz4, hz5]
        exact hno _ s.cells hX.symm (by simp [h2]) (by simp)

theorem ssplit_eq (t : List UInt8) (hl : t.length ≤ 1000000) (H : Heap) : eval tbl noExt n_strings_Split [.str t, .str [32]] H = some (.sl 1 ((splitOn 32 t).map tx), H) := by
  rw [eval_X rfl (show noExt n_strings_Split = some xSplit from rfl)]
  simp only [xSplit]
  rw [if_pos (by omega)]

theorem Read_eq (t : List UInt8) (hl : t.length ≤ 1000) (H : Heap) : eval tbl noExt n_site_Read [.str t] H = some (.tup [.agg (readSi t).1.cells, .bool (readSi t).2], H) := by
  have hs := fun K => ssplit_eq t (by omega) K
  have hlen := spl_len (c := 32) t
  have hne := spl_ne 32 t
  have hw := fun K => words_eq K
  have e9 : siteWords.length = 9 := rfl
  obtain ⟨L, hL⟩ : ∃ L, L = splitOn 32 t := ⟨_, rfl⟩
  have hR : readSi t = if L.length < 3 ∨ 10 < L.length then (zeroSi, false) else afterNums (readNums (startSi (kindTo ((L[0]?).getD []) 9) ((L.length : Int) - 2)) 0 (L.drop 1)) := by rw [hL]; rfl
  rw [← hL] at hs hlen hne
  rw [hR]
  have e1 : IntKind.i64.wrap ((L.length : Int) - 2) = (L.length : Int) - 2 := by rw [w64] <;> omega
  have hzc := zero_cells_eq
  have hz2 : zeroSi.cells.length = 11 := rfl
  have hz3 : setMany zeroSi.cells 0 zeroSi.cells = zeroSi.cells := rfl
  have hz4 : ∀ n, V.underAll n zeroSi.cells = true := fun _ => rfl
  have hz5 : zeroSi.cells.all V.one = true := rfl
  have hz6 : zeroSi.cells.map V.strip = zeroSi.cells := rfl
  have hz7 : zeroSi.cells.take 11 = zeroSi.cells := rfl
  obtain ⟨s1, hs1⟩ : ∃ s1 : Si, s1 = startSi 0 ((L.length : Int) - 2) := ⟨_, rfl⟩
  have ok1 : s1.ok := by rw [hs1]; rfl
  have hd : zeroSi.cells.set 10 (V.int .i64 ((L.length : Int) - 2)) = s1.cells := by rw [hs1]; rfl
  have hd1 : s1.cells.length = 11 := Si.len ok1
  have hd2 : ∀ n, V.underAll n s1.cells = true := fun n => Si.under n
  have hd3 : s1.cells.all V.one = true := Si.one
  have hd4 : setMany zeroSi.cells 0 s1.cells = s1.cells := setMany_self _ _ (by rw [hd1]; rfl)
  have hd5 : ∀ h : 10 < s1.cells.length, s1.cells[10] = iv ((L.length : Int) - 2) := fun h => by
    have := Si.c10 ok1
    rw [List.getElem?_eq_getElem h] at this
    rw [Option.some.inj this, hs1]; rfl
  rw [eval_M rfl rfl t_site_Read rfl]
  by_cases c1 : L.length < 3 ∨ 10 < L.length
  · rw [if_pos c1]
    by_cases c2 : L.length < 3
    · have c2' : (L.length : Int) - 2 < 1 := by omega
      simp [c_site_Read, hs, e1, c2', hzc, hz2, hz3, hz4, hz5, hz6, hz7, hd, hd1, hd2, hd3, hd4, hd5]
    · have c2' : ¬ (L.length : Int) - 2 < 1 := by omega
      have c3' : 8 < (L.length : Int) - 2 := by omega
      simp [c_site_Read, hs, e1, c2', c3', hzc, hz2, hz3, hz4, hz5, hz6, hz7, hd, hd1, hd2, hd3, hd4, hd5]
  · rw [if_neg c1]
    have c2' : ¬ (L.length : Int) - 2 < 1 := by omega
    have c3' : ¬ 8 < (L.length : Int) - 2 := by omega
    obtain ⟨w0, hw0⟩ : ∃ w, L[0]? = some w := by
      cases L with
      | nil => exact absurd rfl hne
      | cons a b => exact ⟨a, rfl⟩
    rw [hw0, Option.getD_some]
    have hc1 : s1.cells = ({ s1 with kind := kindTo w0 0 } : Si).cells := by rw [hs1]; rfl
    have hk1 : startSi (kindTo w0 9) ((L.length : Int) - 2) = { s1 with kind := kindTo w0 9 } := by rw [hs1]; rfl
    rw [hk1]
    obtain ⟨X, hX⟩ : ∃ X, X = readNums { s1 with kind := kindTo w0 9 } 0 (L.drop 1) := ⟨_, rfl⟩
    rw [← hX]
    obtain ⟨Rv, hRv⟩ : ∃ Rv, Rv = afterNums X := ⟨_, rfl⟩
    rw [← hRv]
    simp [c_site_Read, hs, e1, c2', c3', hzc, hz2, hz3, hz4, hz5, hz6, hz7, hd, hd1, hd2, hd3, hd4, hd5, hw, e9]
    rw [hc1]
    have hcut : (List.map tx L).drop 1 = (L.drop 1).map tx := by rw [List.map_drop]
    have hdl : (L.drop 1).length = L.length - 1 := by simp
    rw [show ∀ x, H ++ [some zeroSi.cells, x] = (H ++ [some zeroSi.cells]) ++ x :: [] from fun x => by simp]
    refine rkind_loop (H.length + 1) (H ++ [some zeroSi.cells]) [] (by simp) L w0 hw0 (.ptr H.length 0) _ (fun r => r = some (V.tup [.agg Rv.1.cells, .bool Rv.2], H)) _ s1 ok1 ?_ 9 0 _ (by omega) ?_ ?_ ?_ ?_ ?_ ?_
    · intro φ' q2 q4 q5
      have hone : (1 : Int) ≤ L.length := by omega
      have hnn : L.length ≠ 0 := by omega
      simp [r_site_Read_1, q2, q4, q5, hone]
      refine rnums_loop H (L.drop 1) (by omega) (fun r => r = some (V.tup [.agg Rv.1.cells, .bool Rv.2], H)) _ X ?_ ?_ (L.length - 1) 0 _ _ (by omega) ok1 (by rw [List.drop_zero, ← hX]) ?_ ?_ ?_ ?_ ?_
      · intro φ' s' hs' ok' p2 p5
        have hN := fun K => Name_eq s' ok' K
        have hst := Si.strip (s := s')
        have htk := Si.take ok'
        have hun := fun n => Si.under (s := s') n
        have hlen' := Si.len ok'
        have hone' := Si.one (s := s')
        have hsm' : setMany zeroSi.cells 0 s'.cells = s'.cells := setMany_self _ _ (by rw [hlen']; rfl)
        cases hnm : s'.name.2 with
        | true =>
          have hv : Rv = (s', true) := by rw [hRv, hs']; simp only [afterNums, if_pos hnm]
          rw [hv]
          simp [r_site_Read_0, p2, p5, hN, hst, htk, hun, hlen', hone', hsm', hnm, hz2]
        | false =>
          have hv : Rv = (zeroSi, false) := by rw [hRv, hs']; simp [afterNums, hnm]
          rw [hv]
          simp [r_site_Read_0, p2, p5, hN, hst, htk, hun, hlen', hnm, hzc, hz2, hz3, hz4, hz5, hz6, hz7]
      · intro φ' s' hx p2 p3
        have hv : Rv = (zeroSi, false) := by rw [hRv, hx]; rfl
        rw [hv]
        simp [p2, p3, hz2, hz6, hz7, hz4]
      · simp [q2]
      · simp [q5]
      · simp [List.take_of_length_le]
      · simp
      · simp
    all_goals simp

end Go.AM.Spec
