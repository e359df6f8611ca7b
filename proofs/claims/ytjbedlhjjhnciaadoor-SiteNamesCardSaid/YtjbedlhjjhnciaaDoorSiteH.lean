/-
  Sites: a name that is read is the name of what is read; the document's Read.
-/
import Derived.Test.YtjbedlhjjhnciaaDoorSiteG
namespace Go.AM.Spec
set_option linter.unusedVariables false
set_option linter.unusedSimpArgs false
set_option maxHeartbeats 1000000
set_option maxRecDepth 10000

theorem readNums_deep (d : Int) : ∀ (ws : List (List UInt8)) (s : Si) (i : Nat), readNums { s with deep := d } i ws = (readNums s i ws).map fun s => { s with deep := d }
  | [], s, i => rfl
  | w :: ws, s, i => by
    rw [readNums, readNums]
    split
    · have e : ({ s with deep := d } : Si).putN i (readR w).1 = { s.putN i (readR w).1 with deep := d } := by unfold Si.putN; split <;> rfl
      rw [e, readNums_deep d ws]
    · rfl

theorem readNums_ok : ∀ (ws : List (List UInt8)) (s : Si) (i : Nat) (s' : Si), s.ok → readNums s i ws = some s' → s'.ok ∧ s'.kind = s.kind
  | [], s, i, s', ok, h => by cases h; exact ⟨ok, rfl⟩
  | w :: ws, s, i, s', ok, h => by
    rw [readNums] at h
    split at h
    · have := readNums_ok ws _ _ s' (Si.ok_putN ok _ _) h
      refine ⟨this.1, this.2.trans ?_⟩
      unfold Si.putN; split <;> rfl
    · cases h

theorem nums_full (k p d : Int) : ∀ (ws : List (List UInt8)) (done : List Int) (s' : Si), done.length + ws.length ≤ 8 → readNums ⟨k, p, done ++ List.replicate (8 - done.length) 0, d⟩ (done.length + 1) ws = some s' →
    (∀ w ∈ ws, numOK w = true) ∧ s' = ⟨k, p, done ++ (ws.map (fun w => (readR w).1) ++ List.replicate (8 - done.length - ws.length) 0), d⟩
  | [], done, s', _, h => by
    cases h
    exact ⟨by simp, by simp⟩
  | w :: ws, done, s', hl, h => by
    simp only [List.length_cons] at hl
    rw [readNums] at h
    split at h
    · rename_i hw
      have e : (⟨k, p, done ++ List.replicate (8 - done.length) 0, d⟩ : Si).putN (done.length + 1) (readR w).1 = ⟨k, p, (done ++ [(readR w).1]) ++ List.replicate (8 - (done ++ [(readR w).1]).length) 0, d⟩ := by
        unfold Si.putN
        rw [if_neg (by omega)]
        have h1 : (done ++ List.replicate (8 - done.length) 0).set done.length (readR w).1 = (done ++ [(readR w).1]) ++ List.replicate (8 - (done.length + 1)) (0 : Int) := by
          obtain ⟨m, hm⟩ : ∃ m, 8 - done.length = m + 1 := ⟨7 - done.length, by omega⟩
          rw [hm, List.set_append_right _ _ (Nat.le_refl _), show 8 - (done.length + 1) = m by omega]
          simp [List.replicate_succ]
        simp only [Nat.add_sub_cancel, h1, List.length_append, List.length_singleton]
      rw [e] at h
      have := nums_full k p d ws (done ++ [(readR w).1]) s' (by simp; omega) (by simpa using h)
      refine ⟨fun x hx => ?_, ?_⟩
      · rcases List.mem_cons.1 hx with rfl | hx
        · exact hw
        · exact this.1 x hx
      · rw [this.2]
        simp only [List.length_append, List.length_singleton, List.map_cons, List.append_assoc, List.cons_append, List.nil_append, List.length_cons, List.length_nil, Nat.zero_add]
        rw [show 8 - (done.length + 1) - ws.length = 8 - done.length - (ws.length + 1) by omega]
    · cases h

theorem kindTo_word (w : List UInt8) : ∀ j, j ≤ 9 → kindTo w j < 9 ∧ (1 ≤ kindTo w j → wordOf (kindTo w j) = w)
  | 0, _ => ⟨by show (0 : Int) < 9; decide, fun h => by simp [kindTo] at h⟩
  | j + 1, hj => by
    rw [kindTo]
    split
    · rename_i h
      refine ⟨by omega, fun h1 => ?_⟩
      unfold wordOf
      rw [if_neg (by omega), show ((j : Int)).toNat = j by omega, h]; rfl
    · exact kindTo_word w j (by omega)

/-- What is read has the text as its name. -/
theorem name_read {t w0 : List UInt8} {L : List (List UInt8)} (hL : L = splitOn 32 t) (h3 : 3 ≤ L.length) (h10 : L.length ≤ 10) (hw : L[0]? = some w0) {s : Si} (h : readNums (startSi (kindTo w0 9) ((L.length : Int) - 2)) 0 (L.drop 1) = some s) (hn : s.name.2 = true) : s.name.1 = t := by
  have hj : Go.Lib.join L [32] = t := by rw [hL]; exact join_spl t
  match L, hw, h3 with
  | a :: b :: ws, hw, h3 =>
    simp at hw
    subst hw
    simp only [List.drop_succ_cons, List.drop_zero, readNums] at h
    split at h
    · rename_i hb
      have e : (startSi (kindTo a 9) (((a :: b :: ws).length : Int) - 2)).putN 0 (readR b).1 = ⟨kindTo a 9, (readR b).1, [] ++ List.replicate (8 - ([] : List Int).length) 0, (ws.length : Int)⟩ := by
        unfold Si.putN startSi
        rw [if_pos rfl]
        simp only [List.length_cons]
        congr 1
        omega
      rw [e] at h
      simp only [List.length_cons] at h10
      obtain ⟨h1, h2⟩ := nums_full _ _ _ ws [] s (by simp; omega) h
      simp only [List.nil_append, List.length_nil, Nat.sub_zero] at h2
      have hk := kindTo_word a 9 (Nat.le_refl _)
      unfold Si.name at hn ⊢
      split at hn
      · cases hn
      · rename_i hc
        split at hn
        · cases hn
        · rename_i hc2
          rw [if_neg hc, if_neg hc2]
          have hc3 : ¬ s.kind < 1 := fun h => hc (.inl h)
          have hkk : s.kind = kindTo a 9 := by rw [h2]
          rw [hkk] at hc3
          have p1 : wordOf s.kind = a := by rw [hkk]; exact hk.2 (by omega)
          have tr : ∀ w, numOK w = true → text (readR w).1 = w := fun w hw => text_read w (by unfold numOK at hw; simp only [Bool.and_eq_true] at hw; exact hw.1)
          have p2 : text s.part = b := by rw [h2]; exact tr b hb
          have p3 : (s.way.take s.deep.toNat).map text = ws := by
            rw [h2]
            simp only [Int.toNat_natCast]
            rw [List.take_append_of_le_length (by simp), List.take_of_length_le (by simp), List.map_map]
            have : ∀ l : List (List UInt8), (∀ w ∈ l, numOK w = true) → l.map (text ∘ fun w => (readR w).1) = l := by
              intro l
              induction l with
              | nil => intro _; rfl
              | cons x l ih => intro hl; rw [List.map_cons, ih (fun w hw => hl w (by simp [hw]))]; simp only [Function.comp, tr x (hl x (by simp))]
            exact this ws h1
          have : s.parts = a :: b :: ws := by unfold Si.parts; rw [p1, p2, p3]
          rw [this, hj]
    · cases h

theorem refkind_start (n : Nat) (A B : Heap) (hA : A.length = n) (L : List (List UInt8)) (w : List UInt8) (hw : L[0]? = some w) (v0 v2 : V) (Q : Option (V × Heap) → Prop) (k : List Item) (s : Si) (ok : s.ok)
    (hexit : ∀ φ', Fr.get φ' 0 = v0 → Fr.get φ' 2 = v2 → Fr.get φ' 4 = .own 1 (L.map tx) → Fr.get φ' 7 = .ptr n 0 → Q (M (eval tbl noExt) k φ' (A ++ some ({ s with kind := kindTo w 9 } : Si).cells :: B)))
    (C : List V) (hC : C = ({ s with kind := kindTo w 1 } : Si).cells) (φ : Fr) (h0 : Fr.get φ 0 = v0) (h2 : Fr.get φ 2 = v2) (h4 : Fr.get φ 4 = .own 1 (L.map tx)) (h7 : Fr.get φ 7 = .ptr n 0) (h8 : Fr.get φ 8 = iv (1 : Nat)) :
    Q (M (eval tbl noExt) (.code l_flotsamref25_Read_1 :: .blk 2 :: k) φ (A ++ some C :: B)) := by
  subst hC
  exact refkind_loop n A B hA L w hw v0 v2 Q k s ok hexit 8 1 φ rfl (Nat.le_refl _) h0 h2 h4 h7 h8

theorem refReadS_eq (t : List UInt8) (hl : t.length ≤ 1000) (H : Heap) : eval tbl noExt n_flotsamref25_Read [.str t] H = some (.tup [.agg (readSi t).1.cells, .bool (readSi t).2], H) := by
  have hlen := spl_len (c := 32) t
  have hne := spl_ne 32 t
  obtain ⟨L, hL⟩ : ∃ L, L = splitOn 32 t := ⟨_, rfl⟩
  have hR : readSi t = if L.length < 3 ∨ 10 < L.length then (zeroSi, false) else afterNums (readNums (startSi (kindTo ((L[0]?).getD []) 9) ((L.length : Int) - 2)) 0 (L.drop 1)) := by rw [hL]; rfl
  rw [← hL] at hlen hne
  rw [hR]
  have e1 : IntKind.i64.wrap ((L.length : Int) - 2) = (L.length : Int) - 2 := by rw [w64] <;> omega
  have hzc := zero_cells_eq
  have hz2 : zeroSi.cells.length = 11 := rfl
  have hz3 : setMany zeroSi.cells 0 zeroSi.cells = zeroSi.cells := rfl
  have hz4 : ∀ n, V.underAll n zeroSi.cells = true := fun _ => rfl
  have hz5 : zeroSi.cells.all V.one = true := rfl
  have hz6 : zeroSi.cells.map V.strip = zeroSi.cells := rfl
  have hz7 : zeroSi.cells.take 11 = zeroSi.cells := rfl
  obtain ⟨Rv, hRv⟩ : ∃ Rv, Rv = (if L.length < 3 ∨ 10 < L.length then (zeroSi, false) else afterNums (readNums (startSi (kindTo ((L[0]?).getD []) 9) ((L.length : Int) - 2)) 0 (L.drop 1))) := ⟨_, rfl⟩
  rw [← hRv]
  rw [eval_M rfl rfl t_flotsamref25_Read rfl]
  simp [c_flotsamref25_Read, hzc]
  refine cut_loop t hl _ (.ptr H.length 0) _ (fun r => r = some (V.tup [.agg Rv.1.cells, .bool Rv.2], H)) _ L ?_ (t.length + 1) 0 0 _ [] (by omega) (by omega) (by simp) (by simp) (fun _ => by simp [hL]) (fun h => by omega) ?_ ?_ ?_ ?_ ?_
  · intro φ' q0 q2 q4
    by_cases c1 : L.length < 3 ∨ 10 < L.length
    · rw [if_pos c1] at hRv
      rw [hRv]
      by_cases c2 : L.length < 3
      · have c2' : (L.length : Int) < 3 := by omega
        simp [r_flotsamref25_Read_2, q0, q2, q4, c2', hzc, hz2, hz3, hz4, hz5, hz6, hz7]
      · have c2' : ¬ (L.length : Int) < 3 := by omega
        have c3' : 10 < (L.length : Int) := by omega
        simp [r_flotsamref25_Read_2, q0, q2, q4, c2', c3', hzc, hz2, hz3, hz4, hz5, hz6, hz7]
    · rw [if_neg c1] at hRv
      have c2' : ¬ (L.length : Int) < 3 := by omega
      have c3' : ¬ 10 < (L.length : Int) := by omega
      obtain ⟨w0, hw0⟩ : ∃ w, L[0]? = some w := by
        cases L with
        | nil => exact absurd rfl hne
        | cons a b => exact ⟨a, rfl⟩
      rw [hw0, Option.getD_some] at hRv
      obtain ⟨X, hX⟩ : ∃ X, X = readNums (startSi (kindTo w0 9) 0) 0 (L.drop 1) := ⟨_, rfl⟩
      have hXd : readNums (startSi (kindTo w0 9) ((L.length : Int) - 2)) 0 (L.drop 1) = X.map fun s => { s with deep := (L.length : Int) - 2 } := by
        have := readNums_deep ((L.length : Int) - 2) (L.drop 1) (startSi (kindTo w0 9) 0) 0
        rw [← hX] at this
        exact this
      have hk0 : zeroSi = { zeroSi with kind := kindTo w0 1 } := by
        have : kindTo w0 1 = 0 := by rw [kindTo]; split <;> rfl
        rw [this]; rfl
      simp [r_flotsamref25_Read_2, q0, q2, q4, c2', c3', hzc]
      rw [show ∀ x, H ++ [some zeroSi.cells, x] = (H ++ [some zeroSi.cells]) ++ x :: [] from fun x => by simp]
      refine refkind_start (H.length + 1) (H ++ [some zeroSi.cells]) [] (by simp) L w0 hw0 (.str t) (.ptr H.length 0) (fun r => r = some (V.tup [.agg Rv.1.cells, .bool Rv.2], H)) _ zeroSi zeroSi_ok ?_ zeroSi.cells (congrArg Si.cells hk0) _ ?_ ?_ ?_ ?_ ?_
      · intro φ1 g0 g2 g4 g7
        simp [r_flotsamref25_Read_1]
        refine refnums_loop H t L (by omega) (fun r => r = some (V.tup [.agg Rv.1.cells, .bool Rv.2], H)) _ X ?_ ?_ (L.length - 1) 0 _ (startSi (kindTo w0 9) 0) (by omega) rfl (by rw [hX]) ?_ ?_ ?_ ?_ ?_
        · intro φ2 s' hs' ok' p0 p2 p4 p7
          obtain ⟨s2, hs2⟩ : ∃ s2 : Si, s2 = { s' with deep := (L.length : Int) - 2 } := ⟨_, rfl⟩
          have ok2 : s2.ok := by rw [hs2]; exact ok'
          have hset : s'.cells.set 10 (V.int .i64 ((L.length : Int) - 2)) = s2.cells := by
            have h8 : s'.way.length = 8 := ok'
            rw [hs2]
            simp only [Si.cells, List.set_cons_succ]
            rw [List.set_append_right _ _ (by simp [h8])]
            simp [h8]
          have hN := fun K => refNameS_eq s2 ok2 K
          have hst := Si.strip (s := s2)
          have htk := Si.take ok2
          have hun := fun n => Si.under (s := s2) n
          have hl' := Si.len ok'
          have hl2 := Si.len ok2
          have hone2 := Si.one (s := s2)
          have hsm2 : setMany zeroSi.cells 0 s2.cells = s2.cells := setMany_self _ _ (by rw [hl2]; rfl)
          have hv0 : readNums (startSi (kindTo w0 9) ((L.length : Int) - 2)) 0 (L.drop 1) = some s2 := by rw [hXd, hs', hs2]; rfl
          rw [hv0] at hRv
          cases hnm : s2.name.2 with
          | true =>
            have hv : Rv = (s2, true) := by rw [hRv]; simp only [afterNums, if_pos hnm]
            have ht := name_read hL (by omega) (by omega) hw0 hv0 hnm
            rw [hv]
            simp [r_flotsamref25_Read_0, p0, p2, p4, p7, e1, hset, hN, hst, htk, hun, hl', hl2, hone2, hsm2, hnm, hz2, ht]
          | false =>
            have hv : Rv = (zeroSi, false) := by rw [hRv]; simp [afterNums, hnm]
            rw [hv]
            simp [r_flotsamref25_Read_0, p0, p2, p4, p7, e1, hset, hN, hst, htk, hun, hl', hl2, hone2, hsm2, hnm, hzc, hz2, hz3, hz4, hz5, hz6, hz7]
        · intro φ2 s' hx p2 p3
          have hv : Rv = (zeroSi, false) := by rw [hRv, hXd, hx]; rfl
          rw [hv]
          simp [p2, p3, hz2, hz6, hz7, hz4]
        all_goals simp [g0, g2, g4, g7]
      all_goals simp [q0, q2, q4]
  all_goals simp

end Go.AM.Spec
