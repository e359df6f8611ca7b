/-
  Sites: what is read of a text, in the document.
-/
import Derived.Test.YtjbedlhjjhnciaaDoorSiteF
namespace Go.AM.Spec
set_option linter.unusedVariables false
set_option linter.unusedSimpArgs false
set_option maxHeartbeats 1000000
set_option maxRecDepth 10000

theorem cut_loop (s : List UInt8) (hl : s.length ≤ 1000) (H : Heap) (v2 : V) (call : CallF) (Q : Option (V × Heap) → Prop) (k : List Item) (D : List (List UInt8))
    (hexit : ∀ φ', Fr.get φ' 0 = .str s → Fr.get φ' 2 = v2 → Fr.get φ' 4 = .own 1 (D.map tx) → Q (M call k φ' H)) :
    ∀ (j i f : Nat) (φ : Fr) (done : List (List UInt8)), i + j = s.length + 1 → f ≤ i → (32 : UInt8) ∉ (s.drop f).take (i - f) → done.length ≤ i → (i ≤ s.length → done ++ splitOn 32 (s.drop f) = D) → (s.length < i → done = D) →
      Fr.get φ 0 = .str s → Fr.get φ 2 = v2 → Fr.get φ 4 = .own 1 (done.map tx) → Fr.get φ 5 = iv f → Fr.get φ 6 = iv i →
      Q (M call (.code l_flotsamref25_Read_0 :: .blk 0 :: k) φ H) := by
  intro j
  induction j with
  | zero =>
    intro i f φ done hi hf hn hdl hD hE h0 h2 h4 h5 h6
    have hlt : ¬ (i : Int) ≤ s.length := by omega
    rw [l_flotsamref25_Read_0, M_loop]
    simp [b_flotsamref25_Read_0, h0, h2, h4, h5, h6, hlt]
    exact hexit _ (by simp [h0]) (by simp [h2]) (by rw [← hE (by omega)]; simp [h4])
  | succ j ih =>
    intro i f φ done hi hf hn hdl hD hE h0 h2 h4 h5 h6
    have e1 : (i : Int) ≤ s.length := by omega
    have e2 : IntKind.i64.wrap ((i : Int) + 1) = ((i + 1 : Nat) : Int) := by rw [w64] <;> omega
    have e3 : (f : Int) ≤ i := by omega
    have hc : 2 * ((done.map tx).length + 1) * 16 ≤ 281474976710656 := by simp; omega
    have hc' : 2 * (done.length + 1) * 16 ≤ 281474976710656 := by omega
    obtain ⟨rows, hrows⟩ : ∃ rows, rows = done.map tx := ⟨_, rfl⟩
    rw [← hrows] at hc h4
    rw [l_flotsamref25_Read_0, M_loop, ← l_flotsamref25_Read_0]
    by_cases a1 : i = s.length
    · have hlast : splitOn 32 (s.drop f) = [(s.take s.length).drop f] := spl_last (by
        rw [List.take_of_length_le (by simp; omega)] at hn; exact hn)
      have hnext : rows ++ [[V.str ((s.take i).drop f)]] = D.map tx := by
        rw [← hD (by omega), hlast, hrows, a1]
        simp [tx]
      have e4 : (i : Int) = s.length := by omega
      have hDl : D.length ≤ i + 1 := by
        rw [← hD (by omega), hlast]; simp; omega
      rw [a1] at e3 h6 e2 hnext
      simp [b_flotsamref25_Read_0, h0, h2, h4, h5, h6, e1, e2, e3, e4, hc]
      rw [List.take_length] at hnext
      refine ih (i + 1) (i + 1) _ D (by omega) (Nat.le_refl _) (by simp) hDl (fun h => by omega) (fun _ => rfl) ?_ ?_ ?_ ?_ ?_ <;> simp [h0, h2, hnext, a1]
    · have hlt : i < s.length := by omega
      have e4 : ¬ (i : Int) = s.length := by omega
      have e5 : (i : Int) < s.length := by omega
      have hg : s[i]? = some s[i] := List.getElem?_eq_getElem hlt
      obtain ⟨c, hcc⟩ : ∃ c, c = s[i] := ⟨_, rfl⟩
      have hgc : ∀ h : i < s.length, s[i] = c := fun h => hcc.symm
      by_cases a2 : c = 32
      · have hst : splitOn 32 (s.drop f) = (s.take i).drop f :: splitOn 32 (s.drop (i + 1)) := spl_step hf hlt (by rw [← hcc, a2]) hn
        have hnext : rows ++ [[V.str ((s.take i).drop f)]] = (done ++ [(s.take i).drop f]).map tx := by rw [hrows]; simp [tx]
        have a2' : (c.toNat : Int) = 32 := by rw [a2]; rfl
        simp [b_flotsamref25_Read_0, h0, h2, h4, h5, h6, e1, e2, e3, e4, e5, hc, hlt, hgc, a2']
        refine ih (i + 1) (i + 1) _ (done ++ [(s.take i).drop f]) (by omega) (Nat.le_refl _) (by simp) (by simp; omega) (fun _ => by rw [← hD (by omega), hst]; simp) (fun h => by omega) ?_ ?_ ?_ ?_ ?_ <;> simp [h0, h2, hnext]
      · have a2' : ¬ (c.toNat : Int) = 32 := by
          intro h
          apply a2
          apply UInt8.toNat_inj.1
          have : c.toNat = 32 := by omega
          rw [this]; rfl
        have hn' : (32 : UInt8) ∉ (s.drop f).take (i + 1 - f) := by
          rw [show i + 1 - f = (i - f) + 1 by omega, List.take_add_one]
          intro hm
          rcases List.mem_append.1 hm with hm | hm
          · exact hn hm
          · rw [List.getElem?_drop, show f + (i - f) = i by omega, hg, ← hcc] at hm
            simp at hm
            exact a2 hm.symm
        simp [b_flotsamref25_Read_0, h0, h2, h4, h5, h6, e1, e2, e3, e4, e5, hc, hlt, hgc, a2']
        refine ih (i + 1) f _ done (by omega) (by omega) hn' (by omega) (fun _ => hD (by omega)) (fun h => by omega) ?_ ?_ ?_ ?_ ?_ <;> simp [h0, h2, h4, h5, hrows]

/-- The document's look for the kind. -/
theorem refkind_loop (n : Nat) (A B : Heap) (hA : A.length = n) (L : List (List UInt8)) (w : List UInt8) (hw : L[0]? = some w) (v0 v2 : V) (Q : Option (V × Heap) → Prop) (k : List Item) (s : Si) (ok : s.ok)
    (hexit : ∀ φ', Fr.get φ' 0 = v0 → Fr.get φ' 2 = v2 → Fr.get φ' 4 = .own 1 (L.map tx) → Fr.get φ' 7 = .ptr n 0 → Q (M (eval tbl noExt) k φ' (A ++ some ({ s with kind := kindTo w 9 } : Si).cells :: B))) :
    ∀ (j i : Nat) (φ : Fr), i + j = 9 → 1 ≤ i → Fr.get φ 0 = v0 → Fr.get φ 2 = v2 → Fr.get φ 4 = .own 1 (L.map tx) → Fr.get φ 7 = .ptr n 0 → Fr.get φ 8 = iv i →
      Q (M (eval tbl noExt) (.code l_flotsamref25_Read_1 :: .blk 2 :: k) φ (A ++ some ({ s with kind := kindTo w i } : Si).cells :: B)) := by
  have e9 : siteWords.length = 9 := rfl
  have htw : tx w = [V.str w] := rfl
  have hlen0 : 0 < L.length := by
    cases L with
    | nil => cases hw
    | cons a b => simp
  have hg0 : ∀ h : 0 < L.length, L[0] = w := fun h => by
    rw [List.getElem?_eq_getElem h] at hw
    exact Option.some.inj hw
  intro j
  induction j with
  | zero =>
    intro i φ hi hi1 h0 h2 h4 h7 h8
    obtain rfl : i = 9 := by omega
    rw [l_flotsamref25_Read_1, M_loop]
    simp [b_flotsamref25_Read_1, h0, h2, h4, h7, h8]
    exact hexit _ (by simp [h0]) (by simp [h2]) (by simp [h4]) (by simp [h7])
  | succ j ih =>
    intro i φ hi hi1 h0 h2 h4 h7 h8
    have hlt : i < siteWords.length := by omega
    obtain ⟨u, hu⟩ : ∃ u, u = siteWords[i] := ⟨_, rfl⟩
    have hu' : siteWords[i]? = some u := by rw [hu]; exact List.getElem?_eq_getElem hlt
    have hwo : wordOf (i : Int) = u := by
      unfold wordOf
      rw [if_neg (by omega), show ((i : Int)).toNat = i by omega, hu']; rfl
    have hW := fun K => refWord_eq (i : Int) K
    have e1 : (i : Int) ≤ 8 := by omega
    have e2 : IntKind.i64.wrap ((i : Int) + 1) = ((i + 1 : Nat) : Int) := by rw [w64] <;> omega
    have hc := Si.len (s := { s with kind := kindTo w i }) ok
    have hs0 := Si.put0 ({ s with kind := kindTo w i } : Si) i
    obtain ⟨K, hK⟩ : ∃ K, K = ({ s with kind := kindTo w i } : Si).cells := ⟨_, rfl⟩
    rw [← hK] at hc hs0 ⊢
    have hset : (A ++ some K :: B).set n (some (({ s with kind := (i : Int) } : Si).cells)) = A ++ some (({ s with kind := (i : Int) } : Si).cells) :: B := by rw [← hA]; exact set0 ..
    have hgn : (A ++ some K :: B)[n]? = some (some K) := by rw [← hA]; exact get0 ..
    rw [l_flotsamref25_Read_1, M_loop, ← l_flotsamref25_Read_1]
    by_cases a1 : u = w
    · have hk : ({ s with kind := kindTo w (i + 1) } : Si) = { s with kind := (i : Int) } := by
        rw [kindTo, if_pos (by rw [hu', a1])]
      have := ih (i + 1)
      rw [hk] at this
      simp [b_flotsamref25_Read_1, h0, h2, h4, h7, h8, e1, e2, hW, hwo, a1, hgn, hc, hs0, hset, hlen0, hg0, htw]
      refine this _ (by omega) (by omega) ?_ ?_ ?_ ?_ ?_ <;> simp [h0, h2, h4, h7]
    · have hk : ({ s with kind := kindTo w (i + 1) } : Si).cells = K := by
        rw [hK, kindTo, if_neg (by rw [hu']; intro h; exact a1 (Option.some.inj h))]
      have := ih (i + 1)
      rw [hk] at this
      simp [b_flotsamref25_Read_1, h0, h2, h4, h7, h8, e1, e2, hW, hwo, a1, hlen0, hg0, htw]
      refine this _ (by omega) (by omega) ?_ ?_ ?_ ?_ ?_ <;> simp [h0, h2, h4, h7]

theorem refnums_loop (H : Heap) (t : List UInt8) (L : List (List UInt8)) (hL : L.length ≤ 10) (Q : Option (V × Heap) → Prop) (k : List Item) (X : Option Si)
    (hyes : ∀ φ' s', X = some s' → s'.ok → Fr.get φ' 0 = .str t → Fr.get φ' 2 = .ptr H.length 0 → Fr.get φ' 4 = .own 1 (L.map tx) → Fr.get φ' 7 = .ptr (H.length + 1) 0 → Q (M (eval tbl noExt) k φ' (H ++ [some zeroSi.cells, some s'.cells])))
    (hno : ∀ φ' s', X = none → Fr.get φ' 2 = .ptr H.length 0 → Fr.get φ' 3 = .bool false → Q (retK k φ' (H ++ [some zeroSi.cells, some s']))) :
    ∀ (j i : Nat) (φ : Fr) (s : Si), i + 1 + j = L.length → s.ok → readNums s i (L.drop (i + 1)) = X → Fr.get φ 0 = .str t → Fr.get φ 2 = .ptr H.length 0 → Fr.get φ 4 = .own 1 (L.map tx) → Fr.get φ 7 = .ptr (H.length + 1) 0 → Fr.get φ 9 = iv ((i + 1 : Nat) : Int) →
      Q (M (eval tbl noExt) (.code l_flotsamref25_Read_2 :: .blk 4 :: k) φ (H ++ [some zeroSi.cells, some s.cells])) := by
  intro j
  induction j with
  | zero =>
    intro i φ s hi ok hX h0 h2 h4 h7 h9
    have hlt : ¬ (((i + 1 : Nat) : Int) < L.length) := by omega
    rw [List.drop_eq_nil_of_le (by omega)] at hX
    obtain ⟨m, hm⟩ : ∃ m : Int, m = ((i + 1 : Nat) : Int) := ⟨_, rfl⟩
    rw [← hm] at hlt h9
    rw [l_flotsamref25_Read_2, M_loop]
    simp [b_flotsamref25_Read_2, h0, h2, h4, h7, h9, hlt]
    exact hyes _ s hX.symm ok (by simp [h0]) (by simp [h2]) (by simp [h4]) (by simp [h7])
  | succ j ih =>
    intro i φ s hi ok hX h0 h2 h4 h7 h9
    have hlt : i + 1 < L.length := by omega
    obtain ⟨u, hu⟩ : ∃ u, u = L[i + 1] := ⟨_, rfl⟩
    have hu' : L[i + 1]? = some u := by rw [hu]; exact List.getElem?_eq_getElem hlt
    rw [List.drop_eq_getElem_cons hlt, ← hu, readNums] at hX
    have htw : tx u = [V.str u] := rfl
    have hg : ∀ h : i + 1 < L.length, L[i + 1] = u := fun h => hu.symm
    have hrd := fun K => refRead_eq K u
    have hsm := read_small u
    have hc := Si.len ok
    obtain ⟨m, hm⟩ : ∃ m : Int, m = ((i + 1 : Nat) : Int) := ⟨_, rfl⟩
    have m1 : m.toNat = i + 1 := by omega
    have m2 : 0 ≤ m := by omega
    have m3 : m < L.length := by omega
    have m4 : IntKind.i64.wrap (m + 1) = ((i + 1 + 1 : Nat) : Int) := by rw [w64] <;> omega
    rw [← hm] at h9
    rw [l_flotsamref25_Read_2, M_loop, ← l_flotsamref25_Read_2]
    by_cases hok : numOK u = true
    · rw [if_pos hok] at hX
      unfold numOK at hok
      simp only [Bool.and_eq_true, decide_eq_true_eq] at hok
      obtain ⟨b1, b2⟩ := hok
      have b3 : ¬ 511 < (readR u).1 := by omega
      cases i with
      | zero =>
        have hs1 := Si.put1 s (readR u).1
        have m5 : m = 1 := by omega
        simp [b_flotsamref25_Read_2, h0, h2, h4, h7, h9, m1, m2, m3, m4, htw, hg, hlt, hrd, b1, b3, hc, hs1]
        simp only [m5] at m1 m2 m3 m4 ⊢
        simp [hs1, hc, m4]
        refine ih 1 _ (s.putN 0 (readR u).1) (by omega) (Si.ok_putN ok _ _) hX ?_ ?_ ?_ ?_ ?_ <;> simp [h0, h2, h4, h7, w64]
      | succ q =>
        have hs2 := Si.put2 ok (i := q) (by omega) (readR u).1
        have m5 : ¬ m = 1 := by omega
        have e3 : IntKind.i64.wrap (m - 2) = (q : Int) := by rw [w64] <;> omega
        have e4 : (q : Int) < 8 := by omega
        have e9 : 2 + q + 1 ≤ 11 := by omega
        simp [b_flotsamref25_Read_2, h0, h2, h4, h7, h9, m1, m2, m3, m4, m5, htw, hg, hlt, hrd, b1, b3, hc, hs2, e3, e4, e9]
        refine ih (q + 1 + 1) _ (s.putN (q + 1) (readR u).1) (by omega) (Si.ok_putN ok _ _) hX ?_ ?_ ?_ ?_ ?_ <;> simp [h0, h2, h4, h7]
    · rw [if_neg hok] at hX
      have hz2 : zeroSi.cells.length = 11 := rfl
      have hz3 : setMany zeroSi.cells 0 zeroSi.cells = zeroSi.cells := rfl
      have hz4 : V.underAll (H.length + 1) zeroSi.cells = true := rfl
      have hz5 : zeroSi.cells.all V.one = true := rfl
      have hzc := zero_cells_eq
      cases b1 : (readR u).2 with
      | false =>
        simp [b_flotsamref25_Read_2, h0, h2, h4, h7, h9, m1, m2, m3, m4, htw, hg, hlt, hrd, b1, hzc, hz2, hz3, hz4, hz5]
        exact hno _ s.cells hX.symm (by simp [h2]) (by simp)
      | true =>
        have b3 : 511 < (readR u).1 := by
          unfold numOK at hok
          simp only [b1, Bool.true_and, decide_eq_true_eq] at hok
          omega
        simp [b_flotsamref25_Read_2, h0, h2, h4, h7, h9, m1, m2, m3, m4, htw, hg, hlt, hrd, b1, b3, hzc, hz2, hz3, hz4, hz5]
        exact hno _ s.cells hX.symm (by simp [h2]) (by simp)

end Go.AM.Spec
