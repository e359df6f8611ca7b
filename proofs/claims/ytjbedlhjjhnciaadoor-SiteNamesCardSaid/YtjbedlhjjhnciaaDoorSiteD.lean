/-
  Sites: the document's names.
-/
import Derived.Test.YtjbedlhjjhnciaaDoorSiteC
namespace Go.AM.Spec
set_option linter.unusedVariables false
set_option linter.unusedSimpArgs false
set_option maxHeartbeats 1000000
set_option maxRecDepth 10000

variable {s : Si}

theorem refName_loop (K : Heap) (n : Nat) (hK : K[n]? = some (some s.cells)) (ok : s.ok) (d : Nat) (hd : s.deep = d) (hd8 : d ≤ 8) (hpos : ∀ w ∈ s.way.take d, 0 ≤ w) (Q : Option (V × Heap) → Prop) (k : List Item)
    (X : Bool) (a b : List UInt8) (ha : a.length ≤ 100) (hb : b.length ≤ 100)
    (hyes : ∀ φ', X = false → Fr.get φ' 4 = .str (Go.Lib.join (a :: b :: (s.way.take d).map text) [32]) → Q (M (eval tbl noExt) k φ' K)) (hno : ∀ φ', X = true → Fr.get φ' 2 = .str [] → Fr.get φ' 3 = .bool false → Q (retK k φ' K)) :
    ∀ (j i : Nat) (φ : Fr), i + j = d → (((s.way.take d).drop i).any fun w => decide (511 < w)) = X → Fr.get φ 4 = .str (Go.Lib.join (a :: b :: ((s.way.take d).take i).map text) [32]) → Fr.get φ 1 = .ptr n 0 → Fr.get φ 5 = iv i →
      Q (M (eval tbl noExt) (.code l_flotsamref25_Name_0 :: .blk 0 :: k) φ K) := by
  have h8 : s.way.length = 8 := ok
  have hln : (s.way.take d).length = d := by simp [h8]; omega
  have hc := Si.c10 ok
  rw [hd] at hc
  intro j
  induction j with
  | zero =>
    intro i φ hi hX h4 h1 h5
    have hlt : ¬ (i : Int) < d := by omega
    rw [List.drop_eq_nil_of_le (by omega)] at hX
    rw [List.take_of_length_le (by omega)] at h4
    rw [l_flotsamref25_Name_0, M_loop]
    simp [b_flotsamref25_Name_0, h4, h1, h5, hK, hc, hlt]
    exact hyes _ (by rw [← hX]; rfl) (by simp [h4])
  | succ j ih =>
    intro i φ hi hX h4 h1 h5
    have hlt : i < (s.way.take d).length := by omega
    have hlt' : i < s.way.length := by omega
    rw [List.drop_eq_getElem_cons hlt, List.any_cons] at hX
    obtain ⟨u, hu⟩ : ∃ u, u = (s.way.take d)[i] := ⟨_, rfl⟩
    have hu' : s.way[i]? = some u := by
      rw [hu]
      simp [hlt']
    have hp := hpos u (by rw [hu]; exact List.getElem_mem _)
    rw [← hu] at hX
    have hw := Si.cw (s := s) (i := i) (w := u) hu'
    have e1 : (i : Int) < d := by omega
    have e2 : IntKind.i64.wrap ((i : Int) + 1) = ((i + 1 : Nat) : Int) := by rw [w64] <;> omega
    have e3 : (i : Int) < 8 := by omega
    rw [l_flotsamref25_Name_0, M_loop, ← l_flotsamref25_Name_0]
    by_cases a1 : 511 < u
    · simp [b_flotsamref25_Name_0, h4, h1, h5, hK, hc, hw, e1, e2, e3, a1]
      exact hno _ (by rw [← hX]; simp [a1]) (by simp) (by simp)
    · have hdg := refDigits_eq u.natAbs u [] (Nat.le_refl _) (by omega) (by omega)
      have htl := text_length u
      have hnext : Go.Lib.join (a :: b :: ((s.way.take d).take (i + 1)).map text) [32] = Go.Lib.join (a :: b :: ((s.way.take d).take i).map text) [32] ++ (32 :: text u) := by
        rw [List.take_add_one, List.getElem?_eq_getElem hlt, ← hu]
        simp only [Option.toList_some, List.map_append, List.map_cons, List.map_nil]
        have := jn_snoc (a :: b :: ((s.way.take d).take i).map text) (text u) [32] (by simp)
        simpa using this
      obtain ⟨T, hT⟩ : ∃ T, T = Go.Lib.join (a :: b :: ((s.way.take d).take i).map text) [32] := ⟨_, rfl⟩
      have hTl : T.length ≤ 2000 := by
        have := jn_len [32] 100 (a :: b :: ((s.way.take d).take i).map text) (fun w hw => by
          simp only [List.mem_cons, List.mem_map] at hw
          rcases hw with rfl | rfl | ⟨m, _, rfl⟩
          · exact ha
          · exact hb
          · have := text_length m; omega)
        rw [← hT] at this
        simp only [List.length_cons, List.length_map, List.length_take, List.length_nil] at this
        have h2 : (100 + (0 + 1)) * (min i (min d s.way.length) + 1 + 1) ≤ 101 * 10 := Nat.mul_le_mul (by omega) (by omega)
        omega
      rw [← hT] at h4 hnext
      clear hT
      have l1 : T.length + 1 < 4611686018427387904 := by omega
      have l2 : T.length + 1 + (text u).length < 4611686018427387904 := by omega
      have l3 : T.length + ((text u).length + 1) < 4611686018427387904 := by omega
      simp [b_flotsamref25_Name_0, h4, h1, h5, hK, hc, hw, e1, e2, e3, a1, hdg, l1, l2, l3]
      exact ih (i + 1) _ (by omega) (by rw [← hX]; simp [a1]) (by rw [hnext]; simp) (by simp [h1]) (by simp)

theorem refNameS_eq (s : Si) (ok : s.ok) (H : Heap) : eval tbl noExt n_flotsamref25_Name [.agg s.cells] H = some (.tup [.str s.name.1, .bool s.name.2], H) := by
  have hc0 := Si.c0 (s := s)
  have hc1 := Si.c1 (s := s)
  have hc := Si.c10 ok
  have hl := Si.len ok
  have hst := Si.strip (s := s)
  have htk := Si.take ok
  have hun := fun n => Si.under (s := s) n
  have hm := fun K => refMay_eq s ok K
  have hW := fun K => refWord_eq s.kind K
  have g0 : ∀ h : 0 < s.cells.length, s.cells[0] = iv s.kind := fun h => rfl
  have g1 : ∀ h : 1 < s.cells.length, s.cells[1] = iv s.part := fun h => rfl
  rw [eval_M rfl rfl t_flotsamref25_Name rfl]
  by_cases a1 : s.kind < 1
  · have e : s.name = ([], false) := if_pos (.inl a1)
    simp [c_flotsamref25_Name, hc0, hl, g0, a1, e]
  · by_cases a2 : 8 < s.kind
    · have e : s.name = ([], false) := if_pos (.inr (.inl (by omega)))
      simp [c_flotsamref25_Name, hc0, hl, g0, a1, a2, e]
    · by_cases a3 : s.part < 0
      · have e : s.name = ([], false) := if_pos (.inr (.inr (.inl (by omega))))
        simp [c_flotsamref25_Name, hc0, hc1, hl, g0, g1, a1, a2, a3, e]
      · by_cases a4 : 16 < s.part
        · have e : s.name = ([], false) := if_pos (.inr (.inr (.inr (.inl (by omega)))))
          simp [c_flotsamref25_Name, hc0, hc1, hl, g0, g1, a1, a2, a3, a4, e]
        · cases hmay : s.may with
          | false =>
            have e : s.name = ([], false) := if_pos (.inr (.inr (.inr (.inr hmay))))
            simp [c_flotsamref25_Name, hc0, hc1, hl, g0, g1, a1, a2, a3, a4, e, hm, hmay, htk, hst, hun]
          | true =>
            obtain ⟨h1, h2, h3⟩ := Si.range hmay
            obtain ⟨d, hd⟩ : ∃ d : Nat, s.deep = d := ⟨s.deep.toNat, by omega⟩
            have hdt : s.deep.toNat = d := by omega
            rw [hdt] at h3
            have hdg := refDigits_eq s.part.natAbs s.part [] (Nat.le_refl _) (by omega) (by omega)
            have hparts : s.parts = wordOf s.kind :: text s.part :: (s.way.take d).map text := by unfold Si.parts; rw [hdt]
            obtain ⟨X, hX⟩ : ∃ X, X = ((s.way.take d).any fun w => decide (511 < w)) := ⟨_, rfl⟩
            have e : s.name = if X = true then ([], false) else (Go.Lib.join s.parts [32], true) := by
              unfold Si.name
              rw [if_neg (by rintro (h | h | h | h | h) <;> first | omega | (rw [hmay] at h; cases h)), hdt, hX]
            rw [e]
            have hwl := wordOf_len s.kind
            have htl := text_length s.part
            have l1 : (wordOf s.kind).length + 1 < 4611686018427387904 := by omega
            have l2 : (wordOf s.kind).length + 1 + (text s.part).length < 4611686018427387904 := by omega
            have l3 : (wordOf s.kind).length + ((text s.part).length + 1) < 4611686018427387904 := by omega
            simp [c_flotsamref25_Name, hc0, hc1, hl, g0, g1, hW, a1, a2, a3, a4, hm, hmay, htk, hst, hun, hdg, l1, l2, l3]
            refine refName_loop (s := s) _ H.length (by simp) ok d hd (by omega) h3 (fun r => r = some (V.tup [.str (if X = true then (([] : List UInt8), false) else (Go.Lib.join s.parts [32], true)).1, .bool (if X = true then (([] : List UInt8), false) else (Go.Lib.join s.parts [32], true)).2], H)) _ X (wordOf s.kind) (text s.part) (by omega) (by omega) ?_ ?_ d 0 _ (by omega) ?_ ?_ ?_ ?_
            · intro φ' hx h4
              rw [← hparts] at h4
              simp [r_flotsamref25_Name_0, h4, hx]
            · intro φ' hx q2 q3
              simp [q2, q3, hx]
            · rw [List.drop_zero, hX]
            · rw [List.take_zero, List.map_nil, jn_cons2, Go.Lib.join_one]; simp
            · simp
            · simp

end Go.AM.Spec
