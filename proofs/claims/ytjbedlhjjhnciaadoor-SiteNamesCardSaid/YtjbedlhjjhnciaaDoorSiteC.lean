/-
  Sites: words of kinds and names of sites, in the program and in the document.
-/
import Derived.Test.YtjbedlhjjhnciaaDoorSiteB
namespace Go.AM.Spec
set_option linter.unusedVariables false
set_option linter.unusedSimpArgs false
set_option maxHeartbeats 1000000
set_option maxRecDepth 10000

variable {s : Si}

/-- The words of kinds. -/
def siteWords : List (List UInt8) := [[63], [100, 114, 111, 112, 45, 115, 121, 110, 99], [119, 101, 97, 107, 45, 115, 121, 110, 99], [100, 114, 111, 112, 45, 100, 105, 114], [100, 114, 111, 112, 45, 98, 97, 114, 114, 105, 101, 114], [115, 119, 97, 112], [110, 111, 45, 99, 111, 109, 109, 105, 116], [116, 101, 97, 114], [100, 114, 111, 112, 45, 119, 114, 105, 116, 101]]
def kindsText : List UInt8 := [63, 32, 100, 114, 111, 112, 45, 115, 121, 110, 99, 32, 119, 101, 97, 107, 45, 115, 121, 110, 99, 32, 100, 114, 111, 112, 45, 100, 105, 114, 32, 100, 114, 111, 112, 45, 98, 97, 114, 114, 105, 101, 114, 32, 115, 119, 97, 112, 32, 110, 111, 45, 99, 111, 109, 109, 105, 116, 32, 116, 101, 97, 114, 32, 100, 114, 111, 112, 45, 119, 114, 105, 116, 101]

theorem fields_kinds : Go.Lib.fields kindsText = siteWords := by decide +kernel
theorem ascii_kinds : (kindsText.all fun b => decide (b.toNat < 128)) = true := by decide +kernel
theorem fields_eq : eval tbl noExt n_strings_Fields [.str kindsText] [] = some (.sl 1 (siteWords.map tx), []) := by
  rw [eval_X rfl (show noExt n_strings_Fields = some xFields from rfl)]
  simp only [xFields]
  rw [if_pos ⟨by decide +kernel, ascii_kinds⟩, fields_kinds]

theorem words_eq (H : Heap) : eval tbl noExt n_site_words [] H = some (.sl 1 (siteWords.map tx), H) := by
  have hF := fields_eq
  unfold kindsText at hF
  rw [eval_M rfl rfl t_site_words rfl]
  simp [c_site_words, hF]

/-- A kind's word. -/
def wordOf (k : Int) : List UInt8 := if k < 1 ∨ 8 < k then [63] else (siteWords[k.toNat]?).getD [63]

theorem nine {k : Int} (h0 : 0 ≤ k) (h1 : k < 9) : k = 0 ∨ k = 1 ∨ k = 2 ∨ k = 3 ∨ k = 4 ∨ k = 5 ∨ k = 6 ∨ k = 7 ∨ k = 8 := by omega

theorem Word_eq (k : Int) (H : Heap) : eval tbl noExt n_site_Word [iv k] H = some (.str (wordOf k), H) := by
  have hw := words_eq []
  rw [eval_M rfl rfl t_site_Word rfl]
  by_cases h0 : k < 0
  · have e : wordOf k = [63] := if_pos (.inl (by omega))
    simp [c_site_Word, hw, h0, e]
    simp [siteWords, tx]
  · by_cases h1 : 9 ≤ k
    · have e : wordOf k = [63] := if_pos (.inr (by omega))
      have h2 : ¬ k < 9 := by omega
      simp [c_site_Word, hw, h0, e]
      simp [siteWords, tx, h1]
    · have h2 : ¬ 9 ≤ k := h1
      rcases nine (k := k) (by omega) (by omega) with rfl | rfl | rfl | rfl | rfl | rfl | rfl | rfl | rfl <;> (simp [c_site_Word, hw]; simp [siteWords, tx, wordOf])

theorem refWord_eq (k : Int) (H : Heap) : eval tbl noExt n_flotsamref25_Word [iv k] H = some (.str (wordOf k), H) := by
  rw [eval_M rfl rfl t_flotsamref25_Word rfl]
  by_cases h0 : k < 1
  · have e : wordOf k = [63] := if_pos (.inl (by omega))
    simp [c_flotsamref25_Word, h0, e]
  · by_cases h1 : 8 < k
    · have e : wordOf k = [63] := if_pos (.inr (by omega))
      simp [c_flotsamref25_Word, h0, h1, e]
    · rcases nine (k := k) (by omega) (by omega) with rfl | rfl | rfl | rfl | rfl | rfl | rfl | rfl | rfl
      · omega
      all_goals (simp [c_flotsamref25_Word, wordOf, siteWords, w64])

/-! Names. -/
theorem jn_cons2 (x y : List UInt8) (r : List (List UInt8)) (p : List UInt8) : Go.Lib.join (x :: y :: r) p = x ++ (p ++ Go.Lib.join (y :: r) p) := by
  rw [Go.Lib.join_cons, Go.Lib.join_cons]
  simp [Go.Lib.joinTail]
theorem jn_snoc (l : List (List UInt8)) (x p : List UInt8) (h : l ≠ []) : Go.Lib.join (l ++ [x]) p = Go.Lib.join l p ++ (p ++ x) := by
  cases l with
  | nil => exact absurd rfl h
  | cons y r =>
    rw [List.cons_append, Go.Lib.join_cons, Go.Lib.join_cons]
    simp [Go.Lib.joinTail]
theorem jn_len (p : List UInt8) (n : Nat) : ∀ l : List (List UInt8), (∀ w ∈ l, w.length ≤ n) → (Go.Lib.join l p).length ≤ (n + p.length) * l.length
  | [], _ => by simp [Go.Lib.join_nil]
  | [x], h => by rw [Go.Lib.join_one]; have := h x (by simp); simp; omega
  | x :: y :: r, h => by
    have ih := jn_len p n (y :: r) (fun w hw => h w (by simp at hw ⊢; right; exact hw))
    have hx := h x (by simp)
    rw [jn_cons2]
    have e : (n + p.length) * (x :: y :: r).length = (n + p.length) + (n + p.length) * (y :: r).length := by rw [List.length_cons, Nat.mul_add]; omega
    rw [e]
    simp only [List.length_append]
    omega

/-- The parts of a site's name. -/
def Si.parts (s : Si) : List (List UInt8) := wordOf s.kind :: text s.part :: (s.way.take s.deep.toNat).map text

/-- A site's name. -/
def Si.name (s : Si) : List UInt8 × Bool :=
  if s.kind < 1 ∨ 8 < s.kind ∨ s.part < 0 ∨ 16 < s.part ∨ s.may = false then ([], false)
  else if ((s.way.take s.deep.toNat).any fun w => decide (511 < w)) = true then ([], false)
  else (Go.Lib.join s.parts [32], true)

theorem wordOf_len (k : Int) : (wordOf k).length ≤ 20 := by
  unfold wordOf
  split
  · simp
  · rcases nine (k := k) (by omega) (by omega) with rfl | rfl | rfl | rfl | rfl | rfl | rfl | rfl | rfl <;> decide

theorem name_loop (K : Heap) (n : Nat) (hK : K[n]? = some (some s.cells)) (ok : s.ok) (d : Nat) (hd : d ≤ 8) (hpos : ∀ w ∈ s.way.take d, 0 ≤ w) (Q : Option (V × Heap) → Prop) (k : List Item)
    (X : Bool) (L : List (List UInt8)) (hL : L.length ≤ 2)
    (hyes : ∀ φ', X = false → Fr.get φ' 4 = .own 1 ((L ++ (s.way.take d).map text).map tx) → Q (M (eval tbl noExt) k φ' K)) (hno : ∀ φ', X = true → Fr.get φ' 2 = .str [] → Fr.get φ' 3 = .bool false → Q (retK k φ' K)) :
    ∀ (j i : Nat) (φ : Fr), i + j = d → (((s.way.take d).drop i).any fun w => decide (511 < w)) = X → Fr.get φ 4 = .own 1 ((L ++ ((s.way.take d).take i).map text).map tx) → Fr.get φ 42 = .ms n 2 d 8 → Fr.get φ 43 = iv d → Fr.get φ 44 = iv i →
      Q (M (eval tbl noExt) (.code l_site_Name_0 :: .blk 0 :: k) φ K) := by
  have h8 : s.way.length = 8 := ok
  have hln : (s.way.take d).length = d := by simp [h8]; omega
  intro j
  induction j with
  | zero =>
    intro i φ hi hX h4 h42 h43 h44
    have hlt : ¬ (i : Int) < d := by omega
    rw [List.drop_eq_nil_of_le (by omega)] at hX
    rw [List.take_of_length_le (by omega)] at h4
    rw [l_site_Name_0, M_loop]
    simp [b_site_Name_0, h4, h42, h43, h44, hlt]
    exact hyes _ (by rw [← hX]; rfl) (by simp [h4])
  | succ j ih =>
    intro i φ hi hX h4 h42 h43 h44
    have hlt : i < (s.way.take d).length := by omega
    have hlt' : i < s.way.length := by omega
    rw [List.drop_eq_getElem_cons hlt, List.any_cons] at hX
    obtain ⟨u, hu⟩ : ∃ u, u = (s.way.take d)[i] := ⟨_, rfl⟩
    have hu' : s.way[i]? = some u := by
      rw [hu]
      simp [hlt']
    have hp := hpos u (by rw [hu]; exact List.getElem_mem _)
    rw [← hu] at hX
    have hw := Si.cw (s := s) (i := i) (w := u) hu'
    have e1 : (i : Int) < d := by omega
    have e2 : IntKind.i64.wrap ((i : Int) + 1) = ((i + 1 : Nat) : Int) := by rw [w64] <;> omega
    rw [l_site_Name_0, M_loop, ← l_site_Name_0]
    by_cases a1 : 511 < u
    · simp [b_site_Name_0, h4, h42, h43, h44, hK, hw, e1, e2, a1]
      exact hno _ (by rw [← hX]; simp [a1]) (by simp) (by simp)
    · have hdg := digits_eq [] u (by omega) (by omega)
      obtain ⟨rows, hrows⟩ : ∃ rows, rows = (L ++ ((s.way.take d).take i).map text).map tx := ⟨_, rfl⟩
      have hlen : rows.length ≤ 20 := by
        rw [hrows]
        simp only [List.length_map, List.length_append, List.length_take]; omega
      rw [← hrows] at h4
      have hc : 2 * (rows.length + 1) * 16 ≤ 281474976710656 := by omega
      have hnext : rows ++ [[V.str (text u)]] = (L ++ ((s.way.take d).take (i + 1)).map text).map tx := by
        rw [List.take_add_one, List.getElem?_eq_getElem hlt, ← hu, hrows]
        simp only [Option.toList_some, List.map_append, List.map_cons, List.map_nil, List.append_assoc, tx]
      clear hrows
      simp [b_site_Name_0, h4, h42, h43, h44, hK, hw, e1, e2, a1, hdg, hc]
      exact ih (i + 1) _ (by omega) (by rw [← hX]; simp [a1]) (by rw [← hnext]; simp) (by simp [h42]) (by simp [h43]) (by simp)

theorem Si.range (h : s.may = true) : 1 ≤ s.deep ∧ s.deep ≤ 8 ∧ ∀ w ∈ s.way.take s.deep.toNat, 0 ≤ w := by
  unfold Si.may at h
  simp only [Bool.and_eq_true, decide_eq_true_eq, List.all_eq_true] at h
  exact ⟨h.1, h.2.1, fun w hw => h.2.2.1 w (List.mem_of_mem_take hw)⟩

theorem sjoin_eq (l : List (List UInt8)) (hl : l.length ≤ 10) (hw : ∀ w ∈ l, w.length ≤ 100) (H : Heap) : eval tbl noExt n_strings_Join [.sl 1 (l.map tx), .str [32]] H = some (.str (Go.Lib.join l [32]), H) := by
  have hlen := jn_len [32] 100 l hw
  rw [eval_X rfl (show noExt n_strings_Join = some xJoin from rfl)]
  simp only [xJoin, textsOf_map]
  rw [if_pos ⟨by simp only [List.length_singleton] at hlen; have : (100 + 1) * l.length ≤ 101 * 10 := Nat.mul_le_mul_left _ hl; omega, by omega⟩]

theorem parts_len (h : s.may = true) : s.parts.length ≤ 10 ∧ ∀ w ∈ s.parts, w.length ≤ 100 := by
  obtain ⟨h1, h2, _⟩ := Si.range h
  refine ⟨by simp [Si.parts]; omega, fun w hw => ?_⟩
  simp only [Si.parts, List.mem_cons, List.mem_map] at hw
  rcases hw with rfl | rfl | ⟨n, _, rfl⟩
  · have := wordOf_len s.kind; omega
  · have := text_length s.part; omega
  · have := text_length n; omega

theorem Name_eq (s : Si) (ok : s.ok) (H : Heap) : eval tbl noExt n_site_Name [.agg s.cells] H = some (.tup [.str s.name.1, .bool s.name.2], H) := by
  have hc0 := Si.c0 (s := s)
  have hc1 := Si.c1 (s := s)
  have hc := Si.c10 ok
  have hl := Si.len ok
  have hst := Si.strip (s := s)
  have htk := Si.take ok
  have hun := fun n => Si.under (s := s) n
  have hm := fun K => may_eq s ok K
  have hw := fun K => words_eq K
  have hW := fun K => Word_eq s.kind K
  have e9 : siteWords.length = 9 := rfl
  have g0 : ∀ h : 0 < s.cells.length, s.cells[0] = iv s.kind := fun h => rfl
  have g1 : ∀ h : 1 < s.cells.length, s.cells[1] = iv s.part := fun h => rfl
  have g10 : ∀ h : 10 < s.cells.length, s.cells[10] = iv s.deep := fun h => by
    have := hc
    rw [List.getElem?_eq_getElem h] at this
    exact Option.some.inj this
  rw [eval_M rfl rfl t_site_Name rfl]
  by_cases a1 : s.kind < 1
  · have e : s.name = ([], false) := if_pos (.inl a1)
    simp [c_site_Name, hc0, hl, g0, a1, e]
  · by_cases a2 : 9 ≤ s.kind
    · have e : s.name = ([], false) := if_pos (.inr (.inl (by omega)))
      simp [c_site_Name, hc0, hl, g0, hw, e9, a1, a2, e]
    · by_cases a3 : s.part < 0
      · have e : s.name = ([], false) := if_pos (.inr (.inr (.inl (by omega))))
        simp [c_site_Name, hc0, hc1, hl, g0, g1, hw, e9, a1, a2, a3, e]
      · by_cases a4 : 16 < s.part
        · have e : s.name = ([], false) := if_pos (.inr (.inr (.inr (.inl (by omega)))))
          simp [c_site_Name, hc0, hc1, hl, g0, g1, hw, e9, a1, a2, a3, a4, e]
        · cases hmay : s.may with
          | false =>
            have e : s.name = ([], false) := if_pos (.inr (.inr (.inr (.inr hmay))))
            simp [c_site_Name, hc0, hc1, hl, g0, g1, hw, e9, a1, a2, a3, a4, e, hm, hmay, htk, hst, hun]
          | true =>
            obtain ⟨h1, h2, h3⟩ := Si.range hmay
            obtain ⟨d, hd⟩ : ∃ d : Nat, s.deep = d := ⟨s.deep.toNat, by omega⟩
            have hdt : s.deep.toNat = d := by omega
            rw [hdt] at h3
            have hd8 : (d : Int) ≤ 8 := by omega
            have hdg := digits_eq [] s.part (by omega) (by omega)
            obtain ⟨hp1, hp2⟩ := parts_len hmay
            have hj := fun K => sjoin_eq s.parts hp1 hp2 K
            have hparts : s.parts = [wordOf s.kind, text s.part] ++ (s.way.take d).map text := by unfold Si.parts; rw [hdt]; rfl
            obtain ⟨X, hX⟩ : ∃ X, X = ((s.way.take d).any fun w => decide (511 < w)) := ⟨_, rfl⟩
            have e : s.name = if X = true then ([], false) else (Go.Lib.join s.parts [32], true) := by
              unfold Si.name
              rw [if_neg (by rintro (h | h | h | h | h) <;> first | omega | (rw [hmay] at h; cases h)), hdt, hX]
            rw [e]
            have hd0 : ¬ ((d : Int) < 0) := by omega
            have d8' : d ≤ 8 := by omega
            simp [c_site_Name, hc0, hc1, hc, hl, g0, g1, g10, hw, hW, e9, a1, a2, a3, a4, hm, hmay, htk, hst, hun, hdg, hd, hd8, d8']
            refine name_loop (s := s) _ H.length (by simp) ok d d8' h3 (fun r => r = some (V.tup [.str (if X = true then (([] : List UInt8), false) else (Go.Lib.join s.parts [32], true)).1, .bool (if X = true then (([] : List UInt8), false) else (Go.Lib.join s.parts [32], true)).2], H)) _ X [wordOf s.kind, text s.part] (by simp) ?_ ?_ d 0 _ (by omega) ?_ ?_ ?_ ?_ ?_
            · intro φ' hx h4
              rw [← hparts] at h4
              simp [r_site_Name_0, h4, hj, hx]
            · intro φ' hx q2 q3
              simp [q2, q3, hx]
            · rw [List.drop_zero, hX]
            · simp [tx]
            · simp
            · simp
            · simp

end Go.AM.Spec
