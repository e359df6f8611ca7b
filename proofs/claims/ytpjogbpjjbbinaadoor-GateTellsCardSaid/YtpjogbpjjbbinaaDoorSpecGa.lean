/-
  The parts of this proof that speak of the functions one by one.
-/
import Derived.Test.YtpjogbpjjbbinaaDoorSpecSc
import Derived.Test.YtpjogbpjjbbinaaDoorDoor
namespace Go.AM.Spec
set_option linter.unusedVariables false
set_option linter.unusedSimpArgs false
set_option maxHeartbeats 2000000
set_option maxRecDepth 10000

abbrev K11 : List CK := [.int .i64, .int .i64, .int .i64, .int .i64, .int .i64, .int .i64, .int .i64, .int .i64, .int .i64, .int .i64, .int .i64]

theorem keyWell_si {s : Si} (hs : s.ok) : keyWell K11 s.cells = true := by
  have := Si.eqc hs hs
  unfold keyWell
  rw [this]; rfl

theorem keyAt_si {s : Si} (hs : s.ok) : ∀ (l : List Si), (∀ t ∈ l, t.ok) → keyAt K11 s.cells (l.map Si.cells) = l.findIdx? fun t => decide (s = t)
  | [], _ => rfl
  | t :: l, hok => by
    have h1 := Si.eqc hs (hok t (by simp))
    have ih := keyAt_si hs l (fun t ht => hok t (by simp [ht]))
    unfold keyAt at ih ⊢
    rw [List.map_cons, List.findIdx?_cons, List.findIdx?_cons, ih, h1]
    simp

/-- A site's place, and 1; 0: none. -/
def rowOf (l : List Si) (s : Si) : Nat := match l.findIdx? fun t => decide (s = t) with
  | some j => j + 1
  | none => 0

def ivs (n : Nat) : List V := (List.range n).map fun i : Nat => iv ((i : Int) + 1)
theorem ivs_succ (n : Nat) : ivs n ++ [iv ((n : Int) + 1)] = ivs (n + 1) := by simp [ivs, List.range_succ]
theorem ivs_len (n : Nat) : (ivs n).length = n := by simp [ivs]
theorem ivs_get {n j : Nat} (h : j < n) : (ivs n)[j]? = some (iv ((j : Int) + 1)) := by simp [ivs, h]

theorem look_si {s : Si} (hs : s.ok) (l : List Si) (hok : ∀ t ∈ l, t.ok) : lookOf false (iv 0) K11 s.cells (l.map Si.cells) (ivs l.length) = some (iv (rowOf l s)) := by
  unfold lookOf rowOf
  rw [keyAt_si hs l hok]
  cases h : l.findIdx? fun t => decide (s = t) with
  | none => simp
  | some j =>
    have hj := (List.findIdx?_eq_some_iff_getElem.1 h).1
    simp [ivs_get hj]

theorem put_si {t : Si} {l : List Si} (ht : t.ok) (hok : ∀ t ∈ l, t.ok) (hn : t ∉ l) (v : V) : mapSt K11 t.cells v (l.map Si.cells) (ivs l.length) = ((l ++ [t]).map Si.cells, ivs l.length ++ [v]) := by
  have h0 : l.findIdx? (fun s => decide (t = s)) = none := by
    rw [List.findIdx?_eq_none_iff]
    intro x hx
    simp only [decide_eq_false_iff_not]
    rintro rfl
    exact hn hx
  unfold mapSt
  rw [keyAt_si ht l hok, h0]
  simp

theorem rows_loop (H : Heap) (m : Mx) (hs : m.sites.length ≤ 50) (hok : ∀ s ∈ m.sites, s.ok) (hnd : m.sites.Nodup) (Q : Option (V × Heap) → Prop) (k : List Item)
    (hexit : ∀ φ' R, Fr.get φ' 3 = .mptr (H.length + 1) → Q (M (eval tbl noExt) k φ' (H ++ some m.cells :: some [.mp true K11 (m.sites.map Si.cells) (ivs m.sites.length)] :: R))) :
    ∀ (j i : Nat) (φ : Fr) (R : Heap), i + j = m.sites.length → Fr.get φ 3 = .mptr (H.length + 1) → Fr.get φ 8 = .sl 11 (m.sites.map Si.cells) → Fr.get φ 9 = iv m.sites.length → Fr.get φ 10 = iv i →
      Q (M (eval tbl noExt) (.code l_gate_rows_0 :: .blk 0 :: k) φ (H ++ some m.cells :: some [.mp true K11 ((m.sites.take i).map Si.cells) (ivs i)] :: R)) := by
  intro j
  induction j with
  | zero =>
    intro i φ R hi h3 h8 h9 h10
    have hlt : ¬ (i : Int) < m.sites.length := by omega
    obtain rfl : i = m.sites.length := by omega
    rw [l_gate_rows_0, M_loop]
    simp [b_gate_rows_0, h3, h8, h9, h10, hlt]
    exact hexit _ _ (by simp [h3])
  | succ j ih =>
    intro i φ R hi h3 h8 h9 h10
    have hlt : i < m.sites.length := by omega
    obtain ⟨t, ht⟩ : ∃ t, t = m.sites[i] := ⟨_, rfl⟩
    have hmem : t ∈ m.sites := by rw [ht]; exact List.getElem_mem _
    have okt := hok t hmem
    have hg : ∀ h : i < m.sites.length, m.sites[i] = t := fun h => ht.symm
    have hnext : m.sites.take i ++ [t] = m.sites.take (i + 1) := by rw [List.take_add_one, List.getElem?_eq_getElem hlt, ← ht]; rfl
    have hnot : t ∉ m.sites.take i := by
      have h1 : (m.sites.take (i + 1)).Nodup := hnd.sublist (List.take_sublist _ _)
      rw [← hnext, List.nodup_append] at h1
      intro hh
      exact h1.2.2 t hh t (by simp) rfl
    have hlen : (m.sites.take i).length = i := by simp; omega
    have e1 : (i : Int) < m.sites.length := by omega
    have e2 : IntKind.i64.wrap ((i : Int) + 1) = (i : Int) + 1 := by rw [w64] <;> omega
    obtain ⟨K, hK⟩ : ∃ K, K = H ++ some m.cells :: some [.mp true K11 ((m.sites.take i).map Si.cells) (ivs i)] :: R := ⟨_, rfl⟩
    have hput : ∀ x : Heap, mapPut (K ++ x) true K11 (.mptr (H.length + 1)) t.cells (iv ((i : Int) + 1)) = some (H ++ some m.cells :: some [.mp true K11 ((m.sites.take (i + 1)).map Si.cells) (ivs (i + 1))] :: (R ++ x)) := by
      intro x
      have hget : (K ++ x)[H.length + 1]? = some (some [.mp true K11 ((m.sites.take i).map Si.cells) (ivs i)]) := by
        rw [hK, List.append_assoc]; exact get1 ..
      have hp := put_si okt (fun s hs => hok s (List.mem_of_mem_take hs)) hnot (iv ((i : Int) + 1))
      rw [hlen, hnext, ivs_succ] at hp
      unfold mapPut mapOf
      simp only [hget, and_self, if_true, keyWell_si okt, V.under, hp]
      rw [hK, List.append_assoc]
      congr 1
      exact set1 ..
    rw [← hK]
    have q1 := Si.len okt
    have q3 := Si.strip (s := t)
    have q5 := Si.take okt
    have qu := fun n => Si.under (s := t) n
    have qo := Si.one (s := t)
    have qs := h11 t okt
    rw [l_gate_rows_0, M_loop, ← l_gate_rows_0]
    simp [b_gate_rows_0, h3, h8, h9, h10, hlt, hg, e1, e2, q1, q3, q5, qu, qo, qs, keyOf, hput]
    rw [← List.map_take]
    refine ih (i + 1) _ _ (by omega) ?_ ?_ ?_ ?_ <;> simp [h3, h8, h9]

theorem rows_eq (m : Mx) (hs : m.sites.length ≤ 50) (hok : ∀ s ∈ m.sites, s.ok) (hnd : m.sites.Nodup) (H : Heap) :
    ∃ R, eval tbl noExt n_gate_rows [.agg m.cells] H = some (.mptr (H.length + 1), H ++ some m.cells :: some [.mp true K11 (m.sites.map Si.cells) (ivs m.sites.length)] :: R) := by
  have hcell : m.cells = [.bool m.bad, .sl 6 (m.base.map Ce.cells), .sl 11 (m.sites.map Si.cells), .sl 1 (m.rows.map rowV)] := rfl
  rw [eval_M rfl rfl t_gate_rows rfl]
  have hl := rows_loop H m hs hok hnd (Q := fun r => ∃ R, r = some (.mptr (H.length + 1), H ++ some m.cells :: some [.mp true K11 (m.sites.map Si.cells) (ivs m.sites.length)] :: R)) [.code r_gate_rows_0, .fin [.t 2] H.length] (fun φ' R h3 => by
    have h9 : ¬ (H.length + 1 < H.length) := by omega
    simp [r_gate_rows_0, h3, h9])
  simp [c_gate_rows, hcell]
  rw [hcell] at hl
  refine hl m.sites.length 0 _ [] (by omega) ?_ ?_ ?_ ?_ <;> simp

/-- The kind of a note of two cells. -/
def kindN (a b : Int) : Int := if a = 1 ∧ b = 0 then 1 else if a = 0 ∧ b = 1 then 2 else if a ≠ 2 ∧ b = 2 then 3 else if a = 2 ∧ b ≠ 2 then 4 else 0

theorem kind_eq {a b : Int} (ha : a = 0 ∨ a = 1 ∨ a = 2) (hb : b = 0 ∨ b = 1 ∨ b = 2) (H : Heap) : eval tbl noExt n_gate_kind [iv a, iv b] H = some (iv (kindN a b), H) := by
  rw [eval_M rfl rfl t_gate_kind rfl]
  rcases ha with rfl | rfl | rfl <;> rcases hb with rfl | rfl | rfl <;> simp [c_gate_kind, kindN]

theorem refKind_eq (a b : Int) (H : Heap) : eval tbl noExt n_flotsamref45_kind [iv a, iv b] H = some (iv (kindN a b), H) := by
  rw [eval_M rfl rfl t_flotsamref45_kind rfl]
  unfold kindN
  by_cases a0 : a = 0 <;> by_cases a1 : a = 1 <;> by_cases a2 : a = 2 <;> by_cases b0 : b = 0 <;> by_cases b1 : b = 1 <;> by_cases b2 : b = 2 <;> first
    | (exfalso; omega)
    | simp [c_flotsamref45_kind, a0, a1, a2, b0, b1, b2]

def wordN (k : Int) : List UInt8 :=
  if k = 1 then [108, 111, 115, 116] else if k = 2 then [119, 111, 110] else if k = 3 then [100, 97, 114, 107] else if k = 4 then [99, 108, 101, 97, 114] else if k = 5 then [103, 111, 110, 101] else if k = 6 then [102, 114, 101, 115, 104] else [63]

theorem word_eq (k : Int) (H : Heap) : eval tbl noExt n_gate_word [iv k] H = some (.str (wordN k), H) := by
  rw [eval_M rfl rfl t_gate_word rfl]
  by_cases h0 : k < 0
  · have : wordN k = [63] := by unfold wordN; repeat (rw [if_neg (by omega)])
    simp [c_gate_word, h0, this]
  · by_cases h7 : 7 ≤ k
    · have : wordN k = [63] := by unfold wordN; repeat (rw [if_neg (by omega)])
      have h7' : ¬ k < 7 := by omega
      simp [c_gate_word, h0, h7, this]
    · have : k = 0 ∨ k = 1 ∨ k = 2 ∨ k = 3 ∨ k = 4 ∨ k = 5 ∨ k = 6 := by omega
      rcases this with rfl | rfl | rfl | rfl | rfl | rfl | rfl <;> simp [c_gate_word, wordN]

end Go.AM.Spec

namespace Go.AM.Spec
set_option linter.unusedVariables false
set_option linter.unusedSimpArgs false
set_option maxHeartbeats 4000000
set_option maxRecDepth 10000

/-- A note. -/
structure No where
  kind : Int
  site : Si
  oracle : Int
  deriving DecidableEq

def No.cells (n : No) : List V := iv n.kind :: (n.site.cells ++ [iv n.oracle])

section
variable {s : Si}
theorem n13a (ok : s.ok) : ∀ x a b c d e f g h i j k l : V, setMany [x, a, b, c, d, e, f, g, h, i, j, k, l] 1 s.cells = x :: (s.cells ++ [l]) := fun x a b c d e f g h i j k l => by
  have := setMany_mid [x] [a, b, c, d, e, f, g, h, i, j, k] s.cells [l] (by rw [Si.len ok]; rfl)
  simpa using this
theorem n13b (ok : s.ok) : ∀ x y : V, (s.cells ++ [x]).set 11 y = s.cells ++ [y] := fun x y => by
  have := set1' s.cells x y
  rwa [Si.len ok] at this
where set1' : ∀ (l : List V) (x y : V), (l ++ [x]).set l.length y = l ++ [y]
  | l, x, y => by rw [List.set_append_right _ _ (Nat.le_refl _)]; simp
theorem n13c (ok : s.ok) : ∀ y : V, (s.cells ++ [y]).take 12 = s.cells ++ [y] := fun y => List.take_of_length_le (by simp [Si.len ok])
theorem n13d (ok : s.ok) : ∀ x a b c d e f g h i j k l y : V, setMany [x, a, b, c, d, e, f, g, h, i, j, k, l] 1 (s.cells ++ [y]) = x :: (s.cells ++ [y]) := fun x a b c d e f g h i j k l y => by
  have := setMany_over [x] [a, b, c, d, e, f, g, h, i, j, k, l] (s.cells ++ [y]) (by simp [Si.len ok])
  simpa using this
theorem n13e : s.cells.all V.plain = true := by simp [Si.cells, V.plain]
end

theorem mapOf_take {H K : Heap} {n : Nat} (hK : K.take n = H) {ag : Bool} {kinds : List CK} {v : V} {r : List (List V) × List V} (h : mapOf H ag kinds v = some r) : mapOf K ag kinds v = some r := by
  unfold mapOf at h ⊢
  split at h
  · exact h
  · rename_i i
    split at h
    · rename_i hi
      rw [get_take hK hi]; exact h
    · cases h
  · cases h

/-- What a row's cells say of the other's. -/
def rowN (s : Si) (y : List Ce) : Nat → List Ce → List No
  | _, [] => []
  | j, x :: xs => (if 0 < kindN x.says ((y[j]?).map Ce.says |>.getD 0) then [⟨kindN x.says ((y[j]?).map Ce.says |>.getD 0), s, j⟩] else []) ++ rowN s y (j + 1) xs

theorem rowN_len (s : Si) (y : List Ce) : ∀ (l : List Ce) (j : Nat), (rowN s y j l).length ≤ l.length
  | [], _ => by simp [rowN]
  | x :: xs, j => by
    have := rowN_len s y xs (j + 1)
    simp only [rowN, List.length_append, List.length_cons]
    split <;> simp <;> omega

def says3 (c : Ce) : Prop := c.says = 0 ∨ c.says = 1 ∨ c.says = 2

theorem cmp_in (H : Heap) (n : Nat) (b : Mx) (s : Si) (ok : s.ok) (x y : List Ce) (k : Nat) (hk50 : k < 100) (hb : b.rows[k]? = some y) (hxy : x.length = y.length) (hx30 : x.length ≤ 30) (hx3 : ∀ c ∈ x, says3 c) (hy3 : ∀ c ∈ y, says3 c)
    (hq : H[1]? = some (some b.cells)) (p : Nat) (hp : H[p]? = some (some s.cells)) (v7 v8 v39 v40 v41 : V) (Q : Option (V × Heap) → Prop) (kk : List Item) (X : List No) (hXl : X.length ≤ 4000)
    (hexit : ∀ φ' K', K'.take n = H → n ≤ K'.length → Fr.get φ' 2 = .ptr 0 0 → Fr.get φ' 3 = .ptr 1 0 → Fr.get φ' 6 = .own 13 (X.map No.cells) → Fr.get φ' 7 = v7 → Fr.get φ' 8 = v8 → Fr.get φ' 39 = v39 → Fr.get φ' 40 = v40 → Fr.get φ' 41 = v41 → Q (M (eval tbl noExt) kk φ' K')) :
    ∀ (r j : Nat) (acc : List No) (φ : Fr) (K : Heap), j + r = x.length → acc ++ rowN s y j (x.drop j) = X → K.take n = H → n ≤ K.length → Fr.get φ 2 = .ptr 0 0 → Fr.get φ 3 = .ptr 1 0 → Fr.get φ 6 = .own 13 (acc.map No.cells) → Fr.get φ 7 = v7 → Fr.get φ 8 = v8 →
      Fr.get φ 10 = .ptr p 0 → Fr.get φ 11 = iv ((k : Int) + 1) → Fr.get φ 39 = v39 → Fr.get φ 40 = v40 → Fr.get φ 41 = v41 → Fr.get φ 60 = .sl 6 (x.map Ce.cells) → Fr.get φ 61 = iv x.length → Fr.get φ 62 = iv j →
      Q (M (eval tbl noExt) (.code l_gate_Compare_0 :: .blk 2 :: kk) φ K) := by
  have hcell : b.cells = [.bool b.bad, .sl 6 (b.base.map Ce.cells), .sl 11 (b.sites.map Si.cells), .sl 1 (b.rows.map rowV)] := rfl
  intro r
  induction r with
  | zero =>
    intro j acc φ K hj hX hK hn h2 h3 h6 h7 h8 h10 h11 h39 h40 h41 h60 h61 h62
    have hlt : ¬ (j : Int) < x.length := by omega
    rw [List.drop_eq_nil_of_le (by omega), rowN, List.append_nil] at hX
    subst hX
    rw [l_gate_Compare_0, M_loop]
    simp [b_gate_Compare_0, h2, h3, h6, h7, h8, h10, h11, h39, h40, h41, h60, h61, h62, hlt]
    exact hexit _ _ hK hn (by simp [h2]) (by simp [h3]) (by simp [h6]) (by simp [h7]) (by simp [h8]) (by simp [h39]) (by simp [h40]) (by simp [h41])
  | succ r ih =>
    intro j acc φ K hj hX hK hn h2 h3 h6 h7 h8 h10 h11 h39 h40 h41 h60 h61 h62
    have hlt : j < x.length := by omega
    have hlt2 : j < y.length := by omega
    have hkl : k < b.rows.length := by
      rcases Nat.lt_or_ge k b.rows.length with h | h
      · exact h
      · rw [List.getElem?_eq_none h] at hb; cases hb
    have hbk : ∀ h : k < b.rows.length, b.rows[k] = y := fun h => by
      rw [List.getElem?_eq_getElem h] at hb; exact Option.some.inj hb
    obtain ⟨c, hc⟩ : ∃ c, c = x[j] := ⟨_, rfl⟩
    obtain ⟨d, hd⟩ : ∃ d, d = y[j] := ⟨_, rfl⟩
    have hgc : ∀ h : j < x.length, x[j] = c := fun h => hc.symm
    have hgd : ∀ h : j < y.length, y[j] = d := fun h => hd.symm
    have hyj : y[j]? = some d := by rw [List.getElem?_eq_getElem hlt2, hd]
    have hkd := kind_eq (hx3 c (by rw [hc]; exact List.getElem_mem _)) (hy3 d (by rw [hd]; exact List.getElem_mem _)) []
    rw [List.drop_eq_getElem_cons hlt, ← hc, rowN, hyj] at hX
    simp only [Option.map_some, Option.getD_some] at hX
    generalize kindN c.says d.says = kv at hX hkd
    have e1 : (j : Int) < x.length := by omega
    have e1' : (j : Int) < y.length := by omega
    have e2 : IntKind.i64.wrap ((j : Int) + 1) = ((j + 1 : Nat) : Int) := by rw [w64] <;> omega
    have e3 : IntKind.i64.wrap (k : Int) = (k : Int) := by rw [w64] <;> omega
    have e4 : (k : Int) < b.rows.length := by omega
    have hKq : ∀ r : Heap, (K ++ r)[1]? = some (some b.cells) := fun r => get_take (take_more hK hn r) hq
    have hKp : ∀ r : Heap, (K ++ r)[p]? = some (some s.cells) := fun r => get_take (take_more hK hn r) hp
    rw [hcell] at hKq
    have hK2 : ∀ r, (K ++ r).take n = H := fun r => take_more hK hn r
    have hn2 : ∀ r : Heap, n ≤ (K ++ r).length := fun r => by simp; omega
    have q1 := Si.len ok
    have q3 := Si.strip (s := s)
    have q5 := Si.take ok
    have pa := n13a ok
    have pb := n13b ok
    have pc := n13c ok
    have pd := n13d ok
    have pe := n13e (s := s)
    have hcc : c.cells = [iv c.says, iv c.point, uv c.kept, iv c.verdict, iv c.err, iv c.limit] := rfl
    have hdc : d.cells = [iv d.says, iv d.point, uv d.kept, iv d.verdict, iv d.err, iv d.limit] := rfl
    have hcap : 2 * (acc.length + 1) * 104 ≤ 281474976710656 := by
      have : acc.length ≤ X.length := by rw [← hX]; simp
      omega
    rw [l_gate_Compare_0, M_loop, ← l_gate_Compare_0]
    by_cases hpos : 0 < kv
    · rw [if_pos hpos] at hX
      simp [b_gate_Compare_0, h2, h3, h6, h7, h8, h10, h11, h39, h40, h41, h60, h61, h62, hlt, hlt2, hkl, hbk, hgc, hgd, e1, e1', e2, e3, e4, hKq, hKp, hcc, hdc, rowV, hkd, hpos, q1, q3, q5, pa, pb, pc, pd, pe, hcap]
      refine ih (j + 1) (acc ++ [⟨kv, s, j⟩]) _ _ (by omega) (by rw [← hX]; simp) (hK2 _) (hn2 _) ?_ ?_ ?_ ?_ ?_ ?_ ?_ ?_ ?_ ?_ ?_ ?_ ?_ <;> simp [h2, h3, h7, h8, h10, h11, h39, h40, h41, h60, h61, No.cells]
    · rw [if_neg hpos, List.nil_append] at hX
      simp [b_gate_Compare_0, h2, h3, h6, h7, h8, h10, h11, h39, h40, h41, h60, h61, h62, hlt, hlt2, hkl, hbk, hgc, hgd, e1, e1', e2, e3, e4, hKq, hKp, hcc, hdc, rowV, hkd, hpos, q1, q3, q5]
      refine ih (j + 1) acc _ _ (by omega) hX (hK2 _) (hn2 _) ?_ ?_ ?_ ?_ ?_ ?_ ?_ ?_ ?_ ?_ ?_ ?_ ?_ <;> simp [h2, h3, h6, h7, h8, h10, h11, h39, h40, h41, h60, h61]

end Go.AM.Spec

namespace Go.AM.Spec
set_option linter.unusedVariables false
set_option linter.unusedSimpArgs false
set_option maxHeartbeats 4000000
set_option maxRecDepth 10000

/-- What a site's row says of the other matrix. -/
def siteN (b : Mx) (s : Si) (x : List Ce) : List No := if rowOf b.sites s = 0 then [⟨5, s, 0⟩] else rowN s ((b.rows[rowOf b.sites s - 1]?).getD []) 0 x

def outN (b : Mx) : List Si → List (List Ce) → List No
  | s :: ss, x :: xs => siteN b s x ++ outN b ss xs
  | _, _ => []

/-- The sites that are new. -/
def newN (a : Mx) : List Si → List No
  | [] => []
  | s :: ss => (if rowOf a.sites s = 0 then [⟨6, s, 0⟩] else []) ++ newN a ss

/-- A matrix that is right, as far as the notes need it. -/
structure Mx.good (m : Mx) (N : Nat) : Prop where
  sites : m.sites.length ≤ 50
  rows : m.rows.length = m.sites.length
  ok : ∀ s ∈ m.sites, s.ok
  nd : m.sites.Nodup
  len : ∀ r ∈ m.rows, r.length = N
  says : ∀ r ∈ m.rows, ∀ c ∈ r, says3 c

theorem rowOf_le (l : List Si) (s : Si) : rowOf l s ≤ l.length := by
  unfold rowOf
  split
  · rename_i j h
    have := (List.findIdx?_eq_some_iff_getElem.1 h).1
    omega
  · omega

theorem take_of_take {K' K H : Heap} {m n : Nat} (h : K'.take m = K) (hn : n ≤ m) (h2 : K.take n = H) : K'.take n = H := by
  rw [← h2, ← h, List.take_take, Nat.min_eq_left hn]

theorem cmp_out (H : Heap) (n : Nat) (a b : Mx) (N : Nat) (hN : N ≤ 30) (ga : a.good N) (gb : b.good N) (h0 : H[0]? = some (some a.cells)) (h1 : H[1]? = some (some b.cells)) (pb : Nat) (hm : mapOf H true K11 (.mptr pb) = some (b.sites.map Si.cells, ivs b.sites.length))
    (v7 : V) (Q : Option (V × Heap) → Prop) (kk : List Item) (X : List No) (hXl : X.length ≤ 4000)
    (hexit : ∀ φ' K', K'.take n = H → n ≤ K'.length → Fr.get φ' 2 = .ptr 0 0 → Fr.get φ' 3 = .ptr 1 0 → Fr.get φ' 6 = .own 13 (X.map No.cells) → Fr.get φ' 7 = v7 → Q (M (eval tbl noExt) kk φ' K')) :
    ∀ (r i : Nat) (acc : List No) (φ : Fr) (K : Heap), i + r = a.sites.length → acc ++ outN b (a.sites.drop i) (a.rows.drop i) = X → K.take n = H → n ≤ K.length → Fr.get φ 2 = .ptr 0 0 → Fr.get φ 3 = .ptr 1 0 → Fr.get φ 6 = .own 13 (acc.map No.cells) → Fr.get φ 7 = v7 → Fr.get φ 8 = .mptr pb →
      Fr.get φ 39 = .sl 11 (a.sites.map Si.cells) → Fr.get φ 40 = iv a.sites.length → Fr.get φ 41 = iv i →
      Q (M (eval tbl noExt) (.code l_gate_Compare_1 :: .blk 0 :: kk) φ K) := by
  have hcell : a.cells = [.bool a.bad, .sl 6 (a.base.map Ce.cells), .sl 11 (a.sites.map Si.cells), .sl 1 (a.rows.map rowV)] := rfl
  have hsl := ga.sites
  have hrl := ga.rows
  intro r
  induction r with
  | zero =>
    intro i acc φ K hi hX hK hn h2 h3 h6 h7 h8 h39 h40 h41
    have hlt : ¬ (i : Int) < a.sites.length := by omega
    rw [List.drop_eq_nil_of_le (by omega), outN, List.append_nil] at hX
    · subst hX
      rw [l_gate_Compare_1, M_loop]
      simp [b_gate_Compare_1, h2, h3, h6, h7, h8, h39, h40, h41, hlt]
      exact hexit _ _ hK hn (by simp [h2]) (by simp [h3]) (by simp [h6]) (by simp [h7])
    · intro s ss x xs h; cases h
  | succ r ih =>
    intro i acc φ K hi hX hK hn h2 h3 h6 h7 h8 h39 h40 h41
    have hlt : i < a.sites.length := by omega
    have hltr : i < a.rows.length := by omega
    obtain ⟨t, ht⟩ : ∃ t, t = a.sites[i] := ⟨_, rfl⟩
    obtain ⟨x, hx⟩ : ∃ x, x = a.rows[i] := ⟨_, rfl⟩
    have okt := ga.ok t (by rw [ht]; exact List.getElem_mem _)
    have hxm : x ∈ a.rows := by rw [hx]; exact List.getElem_mem _
    have hxN := ga.len x hxm
    have hg : ∀ h : i < a.sites.length, a.sites[i] = t := fun h => ht.symm
    have hgx : ∀ h : i < a.rows.length, a.rows[i] = x := fun h => hx.symm
    rw [List.drop_eq_getElem_cons hlt, List.drop_eq_getElem_cons hltr, ← ht, ← hx, outN] at hX
    have e1 : (i : Int) < a.sites.length := by omega
    have e1' : (i : Int) < a.rows.length := by omega
    have e2 : IntKind.i64.wrap ((i : Int) + 1) = ((i + 1 : Nat) : Int) := by rw [w64] <;> omega
    have hKq : ∀ r : Heap, (K ++ r)[0]? = some (some a.cells) := fun r => get_take (take_more hK hn r) h0
    have hKm : ∀ r : Heap, mapOf (K ++ r) true K11 (.mptr pb) = some (b.sites.map Si.cells, ivs b.sites.length) := fun r => mapOf_take (take_more hK hn r) hm
    rw [hcell] at hKq
    have hK0 : ∀ (r : Heap) (h : 0 < (K ++ r).length), (K ++ r)[0] = some [.bool a.bad, .sl 6 (a.base.map Ce.cells), .sl 11 (a.sites.map Si.cells), .sl 1 (a.rows.map rowV)] := fun r h => by
      have := hKq r
      rw [List.getElem?_eq_getElem h] at this
      exact Option.some.inj this
    have hK2 : ∀ r, (K ++ r).take n = H := fun r => take_more hK hn r
    have hn2 : ∀ r : Heap, n ≤ (K ++ r).length := fun r => by simp; omega
    have q1 := Si.len okt
    have q3 := Si.strip (s := t)
    have q5 := Si.take okt
    have qu := fun n => Si.under (s := t) n
    have qo := Si.one (s := t)
    have qs := h11 t okt
    have pa := n13a okt
    have pc := n13c okt
    have pd := n13d okt
    have pe := n13e (s := t)
    have kw := keyWell_si okt
    have hlk := look_si okt b.sites gb.ok
    have hacc : acc.length ≤ X.length := by rw [← hX]; simp
    have hcap : 2 * (acc.length + 1) * 104 ≤ 281474976710656 := by omega
    have hle := rowOf_le b.sites t
    unfold siteN at hX
    rw [l_gate_Compare_1, M_loop, ← l_gate_Compare_1]
    by_cases hz : rowOf b.sites t = 0
    · rw [if_pos hz] at hX
      rw [hz] at hlk
      simp [b_gate_Compare_1, r_gate_Compare_0, h2, h3, h6, h7, h8, h39, h40, h41, hlt, hg, e1, e2, q1, q3, q5, qu, qo, qs, keyOf, hKm, kw, hlk, pa, pc, pd, pe, hcap]
      refine ih (i + 1) (acc ++ [⟨5, t, 0⟩]) _ _ (by omega) (by rw [← hX]; simp) (hK2 _) (hn2 _) ?_ ?_ ?_ ?_ ?_ ?_ ?_ ?_ <;> simp [h2, h3, h7, h8, h39, h40, No.cells]
    · obtain ⟨k, hk⟩ : ∃ k, rowOf b.sites t = k + 1 := ⟨rowOf b.sites t - 1, by omega⟩
      have hkr : k < b.rows.length := by have := gb.rows; omega
      obtain ⟨y, hy⟩ : ∃ y, y = b.rows[k] := ⟨_, rfl⟩
      have hyk : b.rows[k]? = some y := by rw [List.getElem?_eq_getElem hkr, hy]
      have hym : y ∈ b.rows := by rw [hy]; exact List.getElem_mem _
      rw [if_neg hz, hk, Nat.add_sub_cancel, hyk, Option.getD_some] at hX
      rw [hk] at hlk
      have hk0 : ¬ (k : Int) + 1 = 0 := by omega
      have hsb := gb.sites
      have hrb := gb.rows
      simp [b_gate_Compare_1, h2, h3, h6, h7, h8, h39, h40, h41, hlt, hltr, hg, hgx, e1, e1', e2, q1, q3, q5, qu, qo, qs, keyOf, hKm, kw, hlk, hk0, hKq, hK0, rowV]
      refine cmp_in (K ++ [some t.cells]) (K.length + 1) b t okt x y k (by omega) hyk (by rw [hxN, gb.len y hym]) (by omega) (ga.says x hxm) (gb.says y hym) (get_take (hK2 _) h1) K.length (by simp) v7 (.mptr pb) (.sl 11 (a.sites.map Si.cells)) (iv a.sites.length) (iv i) Q _ (acc ++ rowN t y 0 x)
        (by rw [← hX] at hXl; simp at hXl ⊢; omega) ?_ x.length 0 acc _ _ (by omega) (by simp) ?_ ?_ ?_ ?_ ?_ ?_ ?_ ?_ ?_ ?_ ?_ ?_ ?_ ?_ ?_
      · intro φ' K' p1 p2 p3 p4 p5 p6 p7 p8 p9 p10
        simp [r_gate_Compare_0, p3, p4, p5, p6, p7, p8, p9, p10, e2]
        refine ih (i + 1) (acc ++ rowN t y 0 x) _ _ (by omega) (by rw [← hX]; simp) (take_of_take p1 (by omega) (hK2 _)) (by omega) ?_ ?_ ?_ ?_ ?_ ?_ ?_ ?_ <;> simp [p3, p4, p5, p6, p7, p8, p9]
      all_goals first
        | (simp [h2, h3, h6, h7, h8, h39, h40, h41, hk]; done)
        | exact List.take_of_length_le (by simp)

theorem cmp_new (H : Heap) (n : Nat) (a b : Mx) (hsl : b.sites.length ≤ 50) (oka : ∀ s ∈ a.sites, s.ok) (okb : ∀ s ∈ b.sites, s.ok) (pa' : Nat) (hm : mapOf H true K11 (.mptr pa') = some (a.sites.map Si.cells, ivs a.sites.length))
    (Q : Option (V × Heap) → Prop) (kk : List Item) (X : List No) (hXl : X.length ≤ 4000)
    (hexit : ∀ φ' K', Fr.get φ' 6 = .own 13 (X.map No.cells) → Q (M (eval tbl noExt) kk φ' K')) :
    ∀ (r i : Nat) (acc : List No) (φ : Fr) (K : Heap), i + r = b.sites.length → acc ++ newN a (b.sites.drop i) = X → K.take n = H → n ≤ K.length → Fr.get φ 6 = .own 13 (acc.map No.cells) → Fr.get φ 7 = .mptr pa' →
      Fr.get φ 92 = .sl 11 (b.sites.map Si.cells) → Fr.get φ 93 = iv b.sites.length → Fr.get φ 94 = iv i →
      Q (M (eval tbl noExt) (.code l_gate_Compare_2 :: .blk 4 :: kk) φ K) := by
  intro r
  induction r with
  | zero =>
    intro i acc φ K hi hX hK hn h6 h7 h92 h93 h94
    have hlt : ¬ (i : Int) < b.sites.length := by omega
    rw [List.drop_eq_nil_of_le (by omega), newN, List.append_nil] at hX
    subst hX
    rw [l_gate_Compare_2, M_loop]
    simp [b_gate_Compare_2, h6, h7, h92, h93, h94, hlt]
    exact hexit _ _ (by simp [h6])
  | succ r ih =>
    intro i acc φ K hi hX hK hn h6 h7 h92 h93 h94
    have hlt : i < b.sites.length := by omega
    obtain ⟨t, ht⟩ : ∃ t, t = b.sites[i] := ⟨_, rfl⟩
    have okt := okb t (by rw [ht]; exact List.getElem_mem _)
    have hg : ∀ h : i < b.sites.length, b.sites[i] = t := fun h => ht.symm
    rw [List.drop_eq_getElem_cons hlt, ← ht, newN] at hX
    have e1 : (i : Int) < b.sites.length := by omega
    have e2 : IntKind.i64.wrap ((i : Int) + 1) = ((i + 1 : Nat) : Int) := by rw [w64] <;> omega
    have hKm : ∀ r : Heap, mapOf (K ++ r) true K11 (.mptr pa') = some (a.sites.map Si.cells, ivs a.sites.length) := fun r => mapOf_take (take_more hK hn r) hm
    have hK2 : ∀ r, (K ++ r).take n = H := fun r => take_more hK hn r
    have hn2 : ∀ r : Heap, n ≤ (K ++ r).length := fun r => by simp; omega
    have q1 := Si.len okt
    have q3 := Si.strip (s := t)
    have q5 := Si.take okt
    have qu := fun n => Si.under (s := t) n
    have qo := Si.one (s := t)
    have qs := h11 t okt
    have pa := n13a okt
    have pc := n13c okt
    have pd := n13d okt
    have pe := n13e (s := t)
    have kw := keyWell_si okt
    have hlk := look_si okt a.sites oka
    have hacc : acc.length ≤ X.length := by rw [← hX]; simp
    have hcap : 2 * (acc.length + 1) * 104 ≤ 281474976710656 := by omega
    rw [l_gate_Compare_2, M_loop, ← l_gate_Compare_2]
    by_cases hz : rowOf a.sites t = 0
    · rw [if_pos hz] at hX
      rw [hz] at hlk
      simp [b_gate_Compare_2, h6, h7, h92, h93, h94, hlt, hg, e1, e2, q1, q3, q5, qu, qo, qs, keyOf, hKm, kw, hlk, pa, pc, pd, pe, hcap]
      refine ih (i + 1) (acc ++ [⟨6, t, 0⟩]) _ _ (by omega) (by rw [← hX]; simp) (hK2 _) (hn2 _) ?_ ?_ ?_ ?_ ?_ <;> simp [h7, h92, h93, No.cells]
    · rw [if_neg hz] at hX
      obtain ⟨k, hk⟩ : ∃ k, rowOf a.sites t = k + 1 := ⟨rowOf a.sites t - 1, by omega⟩
      rw [hk] at hlk
      have hk0 : ¬ (k : Int) + 1 = 0 := by omega
      simp [b_gate_Compare_2, h6, h7, h92, h93, h94, hlt, hg, e1, e2, q1, q3, q5, qu, qo, qs, keyOf, hKm, kw, hlk, hk0]
      refine ih (i + 1) acc _ _ (by omega) (by rw [← hX]; simp) (hK2 _) (hn2 _) ?_ ?_ ?_ ?_ ?_ <;> simp [h6, h7, h92, h93]

/-- The notes of two matrices. -/
def notesAB (a b : Mx) : List No := outN b a.sites a.rows ++ newN a b.sites

def mayAB (a b : Mx) : Bool := a.right && (b.right && decide (a.base.length = b.base.length))

theorem sumC_says {c : Ce} (h : c.right = true) : says3 c := by
  unfold says3
  unfold Ce.right at h
  split at h
  · simp_all
  · split at h <;> simp_all

theorem sitesOK_nd : ∀ (l done : List Si), sitesOK done l = true → done.Nodup → (done ++ l).Nodup
  | [], done, _, hd => by simpa using hd
  | s :: l, done, h, hd => by
    simp only [sitesOK, Bool.and_eq_true, Bool.not_eq_true', decide_eq_false_iff_not] at h
    have := sitesOK_nd l (done ++ [s]) h.2.2 (by
      rw [List.nodup_append]
      refine ⟨hd, by simp, fun x hx y hy => ?_⟩
      simp at hy
      subst hy
      rintro rfl
      exact h.2.1 hx)
    simpa using this

theorem Mx.right_good {m : Mx} (h : m.right = true) (hm : m.few) (hok : ∀ s ∈ m.sites, s.ok) : m.good m.base.length := by
  unfold Mx.right at h
  simp only [Bool.and_eq_true, decide_eq_true_eq] at h
  obtain ⟨h1, h2, h3, h4⟩ := h
  split at h4
  · simp only [Bool.and_eq_true, decide_eq_true_eq] at h4
    have e1 := List.length_eq_zero_iff.1 h4.1
    have e2 := List.length_eq_zero_iff.1 h4.2
    refine ⟨by rw [e1]; simp, by rw [e1, e2]; rfl, hok, by rw [e1]; simp, by rw [e2]; simp, by rw [e2]; simp⟩
  · simp only [Bool.and_eq_true, decide_eq_true_eq, List.all_eq_true] at h4
    obtain ⟨h5, h6, h7⟩ := h4
    refine ⟨hm.sites, h5.symm, hok, by simpa using sitesOK_nd m.sites [] h7 (by simp), fun r hr => ?_, fun r hr c hc => ?_⟩
    · have := h6 r hr
      unfold rowOK at this
      simp only [Bool.and_eq_true, decide_eq_true_eq] at this
      exact this.1
    · have := h6 r hr
      unfold rowOK at this
      simp only [Bool.and_eq_true, decide_eq_true_eq, List.all_eq_true] at this
      exact sumC_says (this.2 c hc)

theorem outN_len (b : Mx) : ∀ (ss : List Si) (rs : List (List Ce)), (∀ r ∈ rs, r.length ≤ 30) → (outN b ss rs).length ≤ 30 * ss.length
  | [], _, _ => by simp [outN]
  | s :: ss, [], _ => by simp [outN]
  | s :: ss, x :: xs, h => by
    have ih := outN_len b ss xs (fun r hr => h r (by simp [hr]))
    have h1 := h x (by simp)
    have h2 := rowN_len s ((b.rows[rowOf b.sites s - 1]?).getD []) x 0
    simp only [outN, List.length_append, List.length_cons]
    have : (siteN b s x).length ≤ 30 := by
      unfold siteN
      split
      · simp
      · omega
    omega

theorem newN_len (a : Mx) : ∀ (ss : List Si), (newN a ss).length ≤ ss.length
  | [] => by simp [newN]
  | s :: ss => by
    have ih := newN_len a ss
    simp only [newN, List.length_append, List.length_cons]
    split <;> simp <;> omega

theorem few30 {m : Mx} (h : m.few) : ∀ r ∈ m.rows, r.length ≤ 30 := h.row

theorem Compare_eq (a b : Mx) (fa : a.few) (fb : b.few) (oka : ∀ s ∈ a.sites, s.ok) (okb : ∀ s ∈ b.sites, s.ok) :
    eval tbl noExt n_gate_Compare [.agg a.cells, .agg b.cells] [] = some (if mayAB a b then .tup [.sl 13 ((notesAB a b).map No.cells), .bool true] else .tup [.sl 13 [], .bool false], []) := by
  have hca : a.cells = [.bool a.bad, .sl 6 (a.base.map Ce.cells), .sl 11 (a.sites.map Si.cells), .sl 1 (a.rows.map rowV)] := rfl
  have hcb : b.cells = [.bool b.bad, .sl 6 (b.base.map Ce.cells), .sl 11 (b.sites.map Si.cells), .sl 1 (b.rows.map rowV)] := rfl
  have ra := SRight_eq a fa oka []
  have rb := SRight_eq b fb okb []
  have hbl := fa.base
  have hbl2 := fb.base
  have hsa := fa.sites
  have hsb := fb.sites
  rw [eval_M rfl rfl t_gate_Compare rfl]
  unfold mayAB
  cases ha : a.right with
  | false =>
    rw [ha, hca] at ra
    simp [c_gate_Compare, hca, hcb, ra]
  | true =>
    cases hb : b.right with
    | false =>
      rw [ha, hca] at ra
      rw [hb, hcb] at rb
      simp [c_gate_Compare, hca, hcb, ra, rb]
    | true =>
      by_cases hl : a.base.length = b.base.length
      · have ga := Mx.right_good ha fa oka
        have gb := Mx.right_good hb fb okb
        rw [← hl] at gb
        have hl' : (a.base.length : Int) = b.base.length := by omega
        obtain ⟨R1, r1⟩ := rows_eq a hsa oka ga.nd (List.replicate 2 none)
        have x1 : callOwn (eval tbl noExt) n_gate_rows [.agg a.cells] 2 = some (.mptr 3, some a.cells :: some [.mp true K11 (a.sites.map Si.cells) (ivs a.sites.length)] :: R1) := by
          unfold callOwn
          rw [r1]; rfl
        obtain ⟨R2, r2⟩ := rows_eq b hsb okb gb.nd (some a.cells :: some b.cells :: some a.cells :: some [.mp true K11 (a.sites.map Si.cells) (ivs a.sites.length)] :: R1)
        obtain ⟨Hb, hHb⟩ : ∃ Hb, Hb = (some a.cells :: some b.cells :: some a.cells :: some [.mp true K11 (a.sites.map Si.cells) (ivs a.sites.length)] :: R1) ++ some b.cells :: some [.mp true K11 (b.sites.map Si.cells) (ivs b.sites.length)] :: R2 := ⟨_, rfl⟩
        have hma : mapOf Hb true K11 (.mptr 3) = some (a.sites.map Si.cells, ivs a.sites.length) := by rw [hHb]; rfl
        have hmb : mapOf Hb true K11 (.mptr (R1.length + 4 + 1)) = some (b.sites.map Si.cells, ivs b.sites.length) := by
          unfold mapOf
          have : Hb[R1.length + 4 + 1]? = some (some [.mp true K11 (b.sites.map Si.cells) (ivs b.sites.length)]) := by
            rw [hHb]
            exact get1 (some a.cells :: some b.cells :: some a.cells :: some [.mp true K11 (a.sites.map Si.cells) (ivs a.sites.length)] :: R1) _ _ _
          simp [this]
        have g0 : Hb[0]? = some (some a.cells) := by rw [hHb]; rfl
        have g1 : Hb[1]? = some (some b.cells) := by rw [hHb]; rfl
        have hlen : (notesAB a b).length ≤ 4000 := by
          have h1 := outN_len b a.sites a.rows (few30 fa)
          have h2 := newN_len a b.sites
          unfold notesAB
          simp only [List.length_append]
          omega
        have hlen1 : (outN b a.sites a.rows).length ≤ 4000 := by
          have : (outN b a.sites a.rows).length ≤ (notesAB a b).length := by unfold notesAB; simp
          omega
        have hout := cmp_out Hb Hb.length a b a.base.length (by omega) ga gb g0 g1 _ hmb (.mptr 3) (fun r => r = some (.tup [.sl 13 ((notesAB a b).map No.cells), .bool true], [])) [.code r_gate_Compare_2, .fin [.t 4, .t 5] 0] (outN b a.sites a.rows) hlen1
          (fun φ' K' p1 p2 p3 p4 p5 p6 => by
            have hnew := cmp_new Hb Hb.length a b hsb oka okb 3 hma (fun r => r = some (.tup [.sl 13 ((notesAB a b).map No.cells), .bool true], [])) [.code r_gate_Compare_1, .fin [.t 4, .t 5] 0] (notesAB a b) hlen (fun φ'' K'' q6 => by
              simp [r_gate_Compare_1, q6])
            have k1 := get_take p1 g1
            rw [hcb] at k1
            simp [r_gate_Compare_2, p3, p4, p5, p6, k1]
            refine hnew b.sites.length 0 (outN b a.sites a.rows) _ _ (by omega) (by simp [notesAB]) p1 p2 ?_ ?_ ?_ ?_ ?_ <;> simp [p5, p6])
        rw [ha, hca] at ra
        rw [hb, hcb] at rb
        rw [hca, hcb] at r2
        rw [hca] at x1
        simp [c_gate_Compare, hca, hcb, ra, rb, hl', hl, x1, r2]
        rw [hHb] at hout
        rw [hca, hcb] at hout
        refine hout a.sites.length 0 [] _ _ (by omega) (by simp) (List.take_of_length_le (Nat.le_refl _)) (Nat.le_refl _) ?_ ?_ ?_ ?_ ?_ ?_ ?_ ?_ <;> simp
      · have hl' : ¬ (a.base.length : Int) = b.base.length := by omega
        rw [ha, hca] at ra
        rw [hb, hcb] at rb
        simp [c_gate_Compare, hca, hcb, ra, rb, hl', hl]

end Go.AM.Spec

namespace Go.AM.Spec
set_option linter.unusedVariables false
set_option linter.unusedSimpArgs false
set_option maxHeartbeats 4000000
set_option maxRecDepth 10000

theorem row_loop (m : Mx) (hs : m.sites.length ≤ 50) (hok : ∀ s ∈ m.sites, s.ok) (s : Si) (ok : s.ok) (K : Heap) (hq0 : K[0]? = some (some m.cells)) (hq1 : K[1]? = some (some s.cells)) (call : CallF) (Q : Option (V × Heap) → Prop) (k : List Item)
    (hret : ∀ φ' (i : Nat), rowOf m.sites s = i + 1 → Fr.get φ' 4 = iv i → Q (retK k φ' K)) (hexit : ∀ φ', rowOf m.sites s = 0 → Q (M call k φ' K)) :
    ∀ (j i : Nat) (φ : Fr), i + j = m.sites.length → (∀ t ∈ m.sites.take i, s ≠ t) → Fr.get φ 2 = .ptr 0 0 → Fr.get φ 3 = .ptr 1 0 → Fr.get φ 5 = iv i → Q (M call (.code l_flotsamref45_row_0 :: .blk 0 :: k) φ K) := by
  have hcell : m.cells = [.bool m.bad, .sl 6 (m.base.map Ce.cells), .sl 11 (m.sites.map Si.cells), .sl 1 (m.rows.map rowV)] := rfl
  have hk0 : ∀ h : 0 < K.length, K[0] = some m.cells := fun h => by
    rw [List.getElem?_eq_getElem h] at hq0; exact Option.some.inj hq0
  have hpos : 0 < K.length := by
    rcases Nat.eq_zero_or_pos K.length with h | h
    · rw [List.getElem?_eq_none (by omega)] at hq0; cases hq0
    · exact h
  rw [hcell] at hq0 hk0
  intro j
  induction j with
  | zero =>
    intro i φ hi hX h2 h3 h5
    have hlt : ¬ (i : Int) < m.sites.length := by omega
    rw [List.take_of_length_le (by omega)] at hX
    rw [l_flotsamref45_row_0, M_loop]
    simp [b_flotsamref45_row_0, h2, h3, h5, hq0, hk0, hpos, hlt]
    refine hexit _ ?_
    unfold rowOf
    rw [List.findIdx?_eq_none_iff.2 (fun t ht => decide_eq_false (hX t ht))]
  | succ j ih =>
    intro i φ hi hX h2 h3 h5
    have hlt : i < m.sites.length := by omega
    obtain ⟨t, ht⟩ : ∃ t, t = m.sites[i] := ⟨_, rfl⟩
    have okt := hok t (by rw [ht]; exact List.getElem_mem _)
    have hg : ∀ h : i < m.sites.length, m.sites[i] = t := fun h => ht.symm
    have hnext : m.sites.take i ++ [t] = m.sites.take (i + 1) := by rw [List.take_add_one, List.getElem?_eq_getElem hlt, ← ht]; rfl
    have e1 : (i : Int) < m.sites.length := by omega
    have e2 : IntKind.i64.wrap ((i : Int) + 1) = ((i + 1 : Nat) : Int) := by rw [w64] <;> omega
    have heq := Si.eqc okt ok
    have q1 := Si.len ok
    have q2 := Si.len okt
    have q3 := Si.strip (s := s)
    have q4 := Si.strip (s := t)
    have q5 := Si.take ok
    have q6 := Si.take okt
    rw [l_flotsamref45_row_0, M_loop, ← l_flotsamref45_row_0]
    by_cases a1 : t = s
    · have heq' : eqCells [.int .i64, .int .i64, .int .i64, .int .i64, .int .i64, .int .i64, .int .i64, .int .i64, .int .i64, .int .i64, .int .i64] t.cells s.cells = some true := by rw [heq]; simp [a1]
      simp [b_flotsamref45_row_0, h2, h3, h5, hq0, hk0, hpos, hq1, hlt, hg, e1, e2, q1, q2, q3, q4, q5, q6, heq']
      refine hret _ i ?_ (by simp)
      unfold rowOf
      have : m.sites.findIdx? (fun t => decide (s = t)) = some i := by
        rw [List.findIdx?_eq_some_iff_getElem]
        refine ⟨hlt, by simp [hg, a1], fun q hq => ?_⟩
        have := hX (m.sites[q]) (by rw [List.mem_take_iff_getElem]; exact ⟨q, by omega, rfl⟩)
        simpa using this
      rw [this]
    · have heq' : eqCells [.int .i64, .int .i64, .int .i64, .int .i64, .int .i64, .int .i64, .int .i64, .int .i64, .int .i64, .int .i64, .int .i64] t.cells s.cells = some false := by rw [heq]; simp [a1]
      simp [b_flotsamref45_row_0, h2, h3, h5, hq0, hk0, hpos, hq1, hlt, hg, e1, e2, q1, q2, q3, q4, q5, q6, heq']
      refine ih (i + 1) _ (by omega) (fun u hu => ?_) ?_ ?_ ?_
      · rw [← hnext, List.mem_append] at hu
        rcases hu with hu | hu
        · exact hX u hu
        · simp at hu; subst hu; exact fun h => a1 h.symm
      all_goals simp [h2, h3]

theorem row_eq (m : Mx) (hs : m.sites.length ≤ 50) (hok : ∀ s ∈ m.sites, s.ok) (s : Si) (ok : s.ok) : eval tbl noExt n_flotsamref45_row [.agg m.cells, .agg s.cells] [] = some (iv ((rowOf m.sites s : Int) - 1), []) := by
  have hcell : m.cells = [.bool m.bad, .sl 6 (m.base.map Ce.cells), .sl 11 (m.sites.map Si.cells), .sl 1 (m.rows.map rowV)] := rfl
  have q1 := Si.len ok
  have q3 := Si.strip (s := s)
  have q5 := Si.take ok
  have qu := fun n => Si.under (s := s) n
  rw [eval_M rfl rfl t_flotsamref45_row rfl]
  have hl := row_loop m hs hok s ok [some m.cells, some s.cells] rfl rfl (eval tbl noExt) (fun r => r = some (iv ((rowOf m.sites s : Int) - 1), [])) [.code r_flotsamref45_row_0, .fin [.t 4] 0]
    (fun φ' i h1 h2 => by simp [h1, h2]) (fun φ' h1 => by simp [r_flotsamref45_row_0, h1])
  rw [hcell] at hl
  simp [c_flotsamref45_row, hcell, q1, q3, q5, qu]
  refine hl m.sites.length 0 _ (by omega) (by simp) ?_ ?_ ?_ <;> simp

end Go.AM.Spec

namespace Go.AM.Spec
set_option linter.unusedVariables false
set_option linter.unusedSimpArgs false
set_option maxHeartbeats 4000000
set_option maxRecDepth 10000

theorem at0 {K : Heap} {x : Option (List V)} (h : K[0]? = some x) : 0 < K.length ∧ ∀ h : 0 < K.length, K[0] = x := by
  have hpos : 0 < K.length := by
    rcases Nat.eq_zero_or_pos K.length with h1 | h1
    · rw [List.getElem?_eq_none (by omega)] at h; cases h
    · exact h1
  exact ⟨hpos, fun h1 => by rw [List.getElem?_eq_getElem h1] at h; exact Option.some.inj h⟩

theorem rcmp_in (K : Heap) (a b : Mx) (i k : Nat) (hi50 : i < 100) (hk50 : k < 100) (x y : List Ce) (s : Si) (ok : s.ok) (ha : a.rows[i]? = some x) (hb : b.rows[k]? = some y) (hsi : a.sites[i]? = some s) (hxy : x.length = y.length) (hx30 : x.length ≤ 30)
    (h0 : K[0]? = some (some a.cells)) (h1 : K[1]? = some (some b.cells)) (Q : Option (V × Heap) → Prop) (kk : List Item) (X : List No) (hXl : X.length ≤ 4000)
    (hexit : ∀ φ', Fr.get φ' 2 = .ptr 0 0 → Fr.get φ' 3 = .ptr 1 0 → Fr.get φ' 6 = .own 13 (X.map No.cells) → Fr.get φ' 7 = iv i → Q (M (eval tbl noExt) kk φ' K)) :
    ∀ (r j : Nat) (acc : List No) (φ : Fr), j + r = x.length → acc ++ rowN s y j (x.drop j) = X → Fr.get φ 2 = .ptr 0 0 → Fr.get φ 3 = .ptr 1 0 → Fr.get φ 6 = .own 13 (acc.map No.cells) → Fr.get φ 7 = iv i → Fr.get φ 8 = iv k → Fr.get φ 9 = iv j →
      Q (M (eval tbl noExt) (.code l_flotsamref45_Compare_0 :: .blk 2 :: kk) φ K) := by
  have hca : a.cells = [.bool a.bad, .sl 6 (a.base.map Ce.cells), .sl 11 (a.sites.map Si.cells), .sl 1 (a.rows.map rowV)] := rfl
  have hcb : b.cells = [.bool b.bad, .sl 6 (b.base.map Ce.cells), .sl 11 (b.sites.map Si.cells), .sl 1 (b.rows.map rowV)] := rfl
  rw [hca] at h0
  rw [hcb] at h1
  obtain ⟨k0, k1⟩ := at0 h0
  obtain ⟨il, ig⟩ := List.getElem?_eq_some_iff.1 ha
  obtain ⟨kl, kg⟩ := List.getElem?_eq_some_iff.1 hb
  obtain ⟨sl, sg⟩ := List.getElem?_eq_some_iff.1 hsi
  have ei : (i : Int) < a.rows.length := by omega
  have es : (i : Int) < a.sites.length := by omega
  have ek : (k : Int) < b.rows.length := by omega
  have q1 := Si.len ok
  have q3 := Si.strip (s := s)
  have q5 := Si.take ok
  have pa := n13a ok
  have pb := n13b ok
  have pc := n13c ok
  have pd := n13d ok
  have pe := n13e (s := s)
  intro r
  induction r with
  | zero =>
    intro j acc φ hj hX h2 h3 h6 h7 h8 h9
    have hlt : ¬ (j : Int) < x.length := by omega
    rw [List.drop_eq_nil_of_le (by omega), rowN, List.append_nil] at hX
    subst hX
    rw [l_flotsamref45_Compare_0, M_loop]
    simp [b_flotsamref45_Compare_0, h2, h3, h6, h7, h8, h9, h0, h1, k0, k1, il, ig, ei, rowV, hlt]
    exact hexit _ (by simp [h2]) (by simp [h3]) (by simp [h6]) (by simp [h7])
  | succ r ih =>
    intro j acc φ hj hX h2 h3 h6 h7 h8 h9
    have hlt : j < x.length := by omega
    have hlt2 : j < y.length := by omega
    obtain ⟨c, hc⟩ : ∃ c, c = x[j] := ⟨_, rfl⟩
    obtain ⟨d, hd⟩ : ∃ d, d = y[j] := ⟨_, rfl⟩
    have hgc : ∀ h : j < x.length, x[j] = c := fun h => hc.symm
    have hgd : ∀ h : j < y.length, y[j] = d := fun h => hd.symm
    have hyj : y[j]? = some d := by rw [List.getElem?_eq_getElem hlt2, hd]
    have hkd := refKind_eq c.says d.says []
    rw [List.drop_eq_getElem_cons hlt, ← hc, rowN, hyj] at hX
    simp only [Option.map_some, Option.getD_some] at hX
    generalize kindN c.says d.says = kv at hX hkd
    have e1 : (j : Int) < x.length := by omega
    have e1' : (j : Int) < y.length := by omega
    have e2 : IntKind.i64.wrap ((j : Int) + 1) = ((j + 1 : Nat) : Int) := by rw [w64] <;> omega
    have hcc : c.cells = [iv c.says, iv c.point, uv c.kept, iv c.verdict, iv c.err, iv c.limit] := rfl
    have hdc : d.cells = [iv d.says, iv d.point, uv d.kept, iv d.verdict, iv d.err, iv d.limit] := rfl
    have hcap : 2 * (acc.length + 1) * 104 ≤ 281474976710656 := by
      have : acc.length ≤ X.length := by rw [← hX]; simp
      omega
    rw [l_flotsamref45_Compare_0, M_loop, ← l_flotsamref45_Compare_0]
    by_cases hpos : 0 < kv
    · rw [if_pos hpos] at hX
      simp [b_flotsamref45_Compare_0, h2, h3, h6, h7, h8, h9, h0, h1, k0, k1, il, ig, ei, kl, kg, ek, sl, sg, es, rowV, hlt, hlt2, hgc, hgd, e1, e1', e2, hcc, hdc, hkd, hpos, q1, q3, q5, pa, pb, pc, pd, pe, hcap]
      refine ih (j + 1) (acc ++ [⟨kv, s, j⟩]) _ (by omega) (by rw [← hX]; simp) ?_ ?_ ?_ ?_ ?_ ?_ <;> simp [h2, h3, h7, h8, No.cells]
    · rw [if_neg hpos, List.nil_append] at hX
      simp [b_flotsamref45_Compare_0, h2, h3, h6, h7, h8, h9, h0, h1, k0, k1, il, ig, ei, kl, kg, ek, sl, sg, es, rowV, hlt, hlt2, hgc, hgd, e1, e1', e2, hcc, hdc, hkd, hpos, q1, q3, q5]
      refine ih (j + 1) acc _ (by omega) hX ?_ ?_ ?_ ?_ ?_ ?_ <;> simp [h2, h3, h6, h7, h8]

theorem rcmp_out (K : Heap) (a b : Mx) (N : Nat) (hN : N ≤ 30) (ga : a.good N) (gb : b.good N) (h0 : K[0]? = some (some a.cells)) (h1 : K[1]? = some (some b.cells)) (Q : Option (V × Heap) → Prop) (kk : List Item) (X : List No) (hXl : X.length ≤ 4000)
    (hexit : ∀ φ', Fr.get φ' 2 = .ptr 0 0 → Fr.get φ' 3 = .ptr 1 0 → Fr.get φ' 6 = .own 13 (X.map No.cells) → Q (M (eval tbl noExt) kk φ' K)) :
    ∀ (r i : Nat) (acc : List No) (φ : Fr), i + r = a.sites.length → acc ++ outN b (a.sites.drop i) (a.rows.drop i) = X → Fr.get φ 2 = .ptr 0 0 → Fr.get φ 3 = .ptr 1 0 → Fr.get φ 6 = .own 13 (acc.map No.cells) → Fr.get φ 7 = iv i →
      Q (M (eval tbl noExt) (.code l_flotsamref45_Compare_1 :: .blk 0 :: kk) φ K) := by
  have hca : a.cells = [.bool a.bad, .sl 6 (a.base.map Ce.cells), .sl 11 (a.sites.map Si.cells), .sl 1 (a.rows.map rowV)] := rfl
  have hcb : b.cells = [.bool b.bad, .sl 6 (b.base.map Ce.cells), .sl 11 (b.sites.map Si.cells), .sl 1 (b.rows.map rowV)] := rfl
  have h0' := h0
  have h1' := h1
  rw [hca] at h0
  rw [hcb] at h1
  obtain ⟨k0, k1⟩ := at0 h0
  have hsl := ga.sites
  have hrl := ga.rows
  intro r
  induction r with
  | zero =>
    intro i acc φ hi hX h2 h3 h6 h7
    have hlt : ¬ (i : Int) < a.sites.length := by omega
    rw [List.drop_eq_nil_of_le (by omega), outN, List.append_nil] at hX
    · subst hX
      rw [l_flotsamref45_Compare_1, M_loop]
      simp [b_flotsamref45_Compare_1, h2, h3, h6, h7, h0, k0, k1, hlt]
      exact hexit _ (by simp [h2]) (by simp [h3]) (by simp [h6])
    · intro s ss x xs h; cases h
  | succ r ih =>
    intro i acc φ hi hX h2 h3 h6 h7
    have hlt : i < a.sites.length := by omega
    have hltr : i < a.rows.length := by omega
    obtain ⟨t, ht⟩ : ∃ t, t = a.sites[i] := ⟨_, rfl⟩
    obtain ⟨x, hx⟩ : ∃ x, x = a.rows[i] := ⟨_, rfl⟩
    have hti : a.sites[i]? = some t := by rw [List.getElem?_eq_getElem hlt, ht]
    have hxi : a.rows[i]? = some x := by rw [List.getElem?_eq_getElem hltr, hx]
    have okt := ga.ok t (by rw [ht]; exact List.getElem_mem _)
    have hxm : x ∈ a.rows := by rw [hx]; exact List.getElem_mem _
    have hxN := ga.len x hxm
    have hg : ∀ h : i < a.sites.length, a.sites[i] = t := fun h => ht.symm
    rw [List.drop_eq_getElem_cons hlt, List.drop_eq_getElem_cons hltr, ← ht, ← hx, outN] at hX
    have e1 : (i : Int) < a.sites.length := by omega
    have e2 : IntKind.i64.wrap ((i : Int) + 1) = ((i + 1 : Nat) : Int) := by rw [w64] <;> omega
    have q1 := Si.len okt
    have q3 := Si.strip (s := t)
    have q5 := Si.take okt
    have qu := fun n => Si.under (s := t) n
    have pa := n13a okt
    have pc := n13c okt
    have pd := n13d okt
    have pe := n13e (s := t)
    have hrow := row_eq b gb.sites gb.ok t okt
    rw [hcb] at hrow
    have hacc : acc.length ≤ X.length := by rw [← hX]; simp
    have hcap : 2 * (acc.length + 1) * 104 ≤ 281474976710656 := by omega
    have hle := rowOf_le b.sites t
    unfold siteN at hX
    rw [l_flotsamref45_Compare_1, M_loop, ← l_flotsamref45_Compare_1]
    by_cases hz : rowOf b.sites t = 0
    · rw [if_pos hz] at hX
      rw [hz] at hrow
      simp at hrow
      simp [b_flotsamref45_Compare_1, r_flotsamref45_Compare_0, h2, h3, h6, h7, h0, h1, k0, k1, hlt, hg, e1, e2, q1, q3, q5, qu, hrow, pa, pc, pd, pe, hcap]
      refine ih (i + 1) (acc ++ [⟨5, t, 0⟩]) _ (by omega) (by rw [← hX]; simp) ?_ ?_ ?_ ?_ <;> simp [h2, h3, No.cells]
    · obtain ⟨k, hk⟩ : ∃ k, rowOf b.sites t = k + 1 := ⟨rowOf b.sites t - 1, by omega⟩
      have hkr : k < b.rows.length := by have := gb.rows; omega
      obtain ⟨y, hy⟩ : ∃ y, y = b.rows[k] := ⟨_, rfl⟩
      have hyk : b.rows[k]? = some y := by rw [List.getElem?_eq_getElem hkr, hy]
      have hym : y ∈ b.rows := by rw [hy]; exact List.getElem_mem _
      rw [if_neg hz, hk, Nat.add_sub_cancel, hyk, Option.getD_some] at hX
      rw [hk] at hrow
      have hki : (((k + 1 : Nat) : Int) - 1) = k := by omega
      rw [hki] at hrow
      have hk0 : ¬ (k : Int) < 0 := by omega
      have hsb := gb.sites
      have hrb := gb.rows
      simp [b_flotsamref45_Compare_1, h2, h3, h6, h7, h0, h1, k0, k1, hlt, hg, e1, e2, q1, q3, q5, qu, hrow, hk0]
      refine rcmp_in K a b i k (by omega) (by omega) x y t okt hxi hyk hti (by rw [hxN, gb.len y hym]) (by omega) h0' h1' Q _ (acc ++ rowN t y 0 x)
        (by rw [← hX] at hXl; simp at hXl ⊢; omega) ?_ x.length 0 acc _ (by omega) (by simp) ?_ ?_ ?_ ?_ ?_ ?_
      · intro φ' p3 p4 p5 p6
        simp [r_flotsamref45_Compare_0, p3, p4, p5, p6, e2]
        refine ih (i + 1) (acc ++ rowN t y 0 x) _ (by omega) (by rw [← hX]; simp) ?_ ?_ ?_ ?_ <;> simp [p3, p4, p5]
      all_goals simp [h2, h3, h6, h7]

theorem rcmp_new (K : Heap) (a b : Mx) (hsa : a.sites.length ≤ 50) (hsl : b.sites.length ≤ 50) (oka : ∀ s ∈ a.sites, s.ok) (okb : ∀ s ∈ b.sites, s.ok) (h0 : K[0]? = some (some a.cells)) (h1 : K[1]? = some (some b.cells))
    (Q : Option (V × Heap) → Prop) (kk : List Item) (X : List No) (hXl : X.length ≤ 4000)
    (hexit : ∀ φ', Fr.get φ' 6 = .own 13 (X.map No.cells) → Q (M (eval tbl noExt) kk φ' K)) :
    ∀ (r i : Nat) (acc : List No) (φ : Fr), i + r = b.sites.length → acc ++ newN a (b.sites.drop i) = X → Fr.get φ 2 = .ptr 0 0 → Fr.get φ 3 = .ptr 1 0 → Fr.get φ 6 = .own 13 (acc.map No.cells) → Fr.get φ 11 = iv i →
      Q (M (eval tbl noExt) (.code l_flotsamref45_Compare_2 :: .blk 4 :: kk) φ K) := by
  have hca : a.cells = [.bool a.bad, .sl 6 (a.base.map Ce.cells), .sl 11 (a.sites.map Si.cells), .sl 1 (a.rows.map rowV)] := rfl
  have hcb : b.cells = [.bool b.bad, .sl 6 (b.base.map Ce.cells), .sl 11 (b.sites.map Si.cells), .sl 1 (b.rows.map rowV)] := rfl
  rw [hca] at h0
  rw [hcb] at h1
  obtain ⟨k0, k1⟩ := at0 h0
  intro r
  induction r with
  | zero =>
    intro i acc φ hi hX h2 h3 h6 h7
    have hlt : ¬ (i : Int) < b.sites.length := by omega
    rw [List.drop_eq_nil_of_le (by omega), newN, List.append_nil] at hX
    subst hX
    rw [l_flotsamref45_Compare_2, M_loop]
    simp [b_flotsamref45_Compare_2, h2, h3, h6, h7, h1, hlt]
    exact hexit _ (by simp [h6])
  | succ r ih =>
    intro i acc φ hi hX h2 h3 h6 h7
    have hlt : i < b.sites.length := by omega
    obtain ⟨t, ht⟩ : ∃ t, t = b.sites[i] := ⟨_, rfl⟩
    have okt := okb t (by rw [ht]; exact List.getElem_mem _)
    have hg : ∀ h : i < b.sites.length, b.sites[i] = t := fun h => ht.symm
    rw [List.drop_eq_getElem_cons hlt, ← ht, newN] at hX
    have e1 : (i : Int) < b.sites.length := by omega
    have e2 : IntKind.i64.wrap ((i : Int) + 1) = ((i + 1 : Nat) : Int) := by rw [w64] <;> omega
    have q1 := Si.len okt
    have q3 := Si.strip (s := t)
    have q5 := Si.take okt
    have qu := fun n => Si.under (s := t) n
    have pa := n13a okt
    have pc := n13c okt
    have pd := n13d okt
    have pe := n13e (s := t)
    have hrow := row_eq a hsa oka t okt
    rw [hca] at hrow
    have hacc : acc.length ≤ X.length := by rw [← hX]; simp
    have hcap : 2 * (acc.length + 1) * 104 ≤ 281474976710656 := by omega
    rw [l_flotsamref45_Compare_2, M_loop, ← l_flotsamref45_Compare_2]
    by_cases hz : rowOf a.sites t = 0
    · rw [if_pos hz] at hX
      rw [hz] at hrow
      simp at hrow
      simp [b_flotsamref45_Compare_2, h2, h3, h6, h7, h0, h1, k0, k1, hlt, hg, e1, e2, q1, q3, q5, qu, hrow, pa, pc, pd, pe, hcap]
      refine ih (i + 1) (acc ++ [⟨6, t, 0⟩]) _ (by omega) (by rw [← hX]; simp) ?_ ?_ ?_ ?_ <;> simp [h2, h3, No.cells]
    · rw [if_neg hz] at hX
      obtain ⟨k, hk⟩ : ∃ k, rowOf a.sites t = k + 1 := ⟨rowOf a.sites t - 1, by omega⟩
      rw [hk] at hrow
      have hki : (((k + 1 : Nat) : Int) - 1) = k := by omega
      rw [hki] at hrow
      have hk0 : ¬ (k : Int) < 0 := by omega
      simp [b_flotsamref45_Compare_2, h2, h3, h6, h7, h0, h1, k0, k1, hlt, hg, e1, e2, q1, q3, q5, qu, hrow, hk0]
      refine ih (i + 1) acc _ (by omega) (by rw [← hX]; simp) ?_ ?_ ?_ ?_ <;> simp [h2, h3, h6]

theorem refCompare_eq (a b : Mx) (fa : a.few) (fb : b.few) (oka : ∀ s ∈ a.sites, s.ok) (okb : ∀ s ∈ b.sites, s.ok) :
    eval tbl noExt n_flotsamref45_Compare [.agg a.cells, .agg b.cells] [] = some (if mayAB a b then .tup [.sl 13 ((notesAB a b).map No.cells), .bool true] else .tup [.sl 13 [], .bool false], []) := by
  have hca : a.cells = [.bool a.bad, .sl 6 (a.base.map Ce.cells), .sl 11 (a.sites.map Si.cells), .sl 1 (a.rows.map rowV)] := rfl
  have hcb : b.cells = [.bool b.bad, .sl 6 (b.base.map Ce.cells), .sl 11 (b.sites.map Si.cells), .sl 1 (b.rows.map rowV)] := rfl
  have ra := refRight_eq a fa oka []
  have rb := refRight_eq b fb okb []
  have hbl := fa.base
  have hbl2 := fb.base
  have hsa := fa.sites
  have hsb := fb.sites
  rw [eval_M rfl rfl t_flotsamref45_Compare rfl]
  unfold mayAB
  cases ha : a.right with
  | false =>
    rw [ha, hca] at ra
    simp [c_flotsamref45_Compare, hca, hcb, ra]
  | true =>
    cases hb : b.right with
    | false =>
      rw [ha, hca] at ra
      rw [hb, hcb] at rb
      simp [c_flotsamref45_Compare, hca, hcb, ra, rb]
    | true =>
      by_cases hl : a.base.length = b.base.length
      · have ga := Mx.right_good ha fa oka
        have gb := Mx.right_good hb fb okb
        rw [← hl] at gb
        have hl' : (a.base.length : Int) = b.base.length := by omega
        have hlen : (notesAB a b).length ≤ 4000 := by
          have h1 := outN_len b a.sites a.rows (few30 fa)
          have h2 := newN_len a b.sites
          unfold notesAB
          simp only [List.length_append]
          omega
        have hlen1 : (outN b a.sites a.rows).length ≤ 4000 := by
          have : (outN b a.sites a.rows).length ≤ (notesAB a b).length := by unfold notesAB; simp
          omega
        have hout := rcmp_out [some a.cells, some b.cells] a b a.base.length (by omega) ga gb rfl rfl (fun r => r = some (.tup [.sl 13 ((notesAB a b).map No.cells), .bool true], [])) [.code r_flotsamref45_Compare_2, .fin [.t 4, .t 5] 0] (outN b a.sites a.rows) hlen1
          (fun φ' p3 p4 p5 => by
            have hnew := rcmp_new [some a.cells, some b.cells] a b hsa hsb oka okb rfl rfl (fun r => r = some (.tup [.sl 13 ((notesAB a b).map No.cells), .bool true], [])) [.code r_flotsamref45_Compare_1, .fin [.t 4, .t 5] 0] (notesAB a b) hlen (fun φ'' q6 => by
              simp [r_flotsamref45_Compare_1, q6])
            simp [r_flotsamref45_Compare_2, p3, p4, p5]
            refine hnew b.sites.length 0 (outN b a.sites a.rows) _ (by omega) (by simp [notesAB]) ?_ ?_ ?_ ?_ <;> simp [p3, p4, p5])
        rw [ha, hca] at ra
        rw [hb, hcb] at rb
        simp [c_flotsamref45_Compare, hca, hcb, ra, rb, hl', hl]
        rw [hca, hcb] at hout
        refine hout a.sites.length 0 [] _ (by omega) (by simp) ?_ ?_ ?_ ?_ <;> simp
      · have hl' : ¬ (a.base.length : Int) = b.base.length := by omega
        rw [ha, hca] at ra
        rw [hb, hcb] at rb
        simp [c_flotsamref45_Compare, hca, hcb, ra, rb, hl', hl]

end Go.AM.Spec

namespace Go.AM.Spec
set_option linter.unusedVariables false
set_option linter.unusedSimpArgs false
set_option maxHeartbeats 4000000
set_option maxRecDepth 10000

section
variable {s : Si}
theorem n13u (n : Nat) (y : Int) : V.underAll n (s.cells ++ [iv y]) = true := by
  have : ∀ l : List V, V.underAll n l = true → V.underAll n (l ++ [iv y]) = true := by
    intro l
    induction l with
    | nil => intro _; rfl
    | cons v l ih =>
      intro h
      simp only [V.underAll, Bool.and_eq_true] at h
      simp only [List.cons_append, V.underAll, h.1, ih h.2, Bool.and_self]
  exact this _ (Si.under n)
end

def worse (n : No) : Bool := decide (n.kind = 1) || (decide (n.kind = 3) || decide (n.kind = 5))

theorem opens_loop (H : Heap) (n : Nat) (l : List No) (hl : l.length ≤ 4000) (hok : ∀ x ∈ l, x.site.ok) (v6 : V) (Q : Option (V × Heap) → Prop) (kk : List Item) (X : Bool)
    (hno : ∀ φ' K', K'.take n = H → n ≤ K'.length → X = true → Fr.get φ' 4 = .bool false → Q (retK kk φ' K')) (hexit : ∀ φ' K', K'.take n = H → n ≤ K'.length → X = false → Fr.get φ' 2 = .ptr 0 0 → Fr.get φ' 3 = .ptr 1 0 → Fr.get φ' 6 = v6 → Q (M (eval tbl noExt) kk φ' K')) :
    ∀ (r i : Nat) (φ : Fr) (K : Heap), i + r = l.length → (l.drop i).any worse = X → K.take n = H → n ≤ K.length → Fr.get φ 2 = .ptr 0 0 → Fr.get φ 3 = .ptr 1 0 → Fr.get φ 6 = v6 → Fr.get φ 15 = .sl 13 (l.map No.cells) → Fr.get φ 16 = iv l.length → Fr.get φ 17 = iv i →
      Q (M (eval tbl noExt) (.code l_gate_Opens_0 :: .blk 0 :: kk) φ K) := by
  intro r
  induction r with
  | zero =>
    intro i φ K hi hX hK hn h2 h3 h6 h15 h16 h17
    have hlt : ¬ (i : Int) < l.length := by omega
    rw [List.drop_eq_nil_of_le (by omega)] at hX
    rw [l_gate_Opens_0, M_loop]
    simp [b_gate_Opens_0, h2, h3, h6, h15, h16, h17, hlt]
    exact hexit _ _ hK hn (by rw [← hX]; rfl) (by simp [h2]) (by simp [h3]) (by simp [h6])
  | succ r ih =>
    intro i φ K hi hX hK hn h2 h3 h6 h15 h16 h17
    have hlt : i < l.length := by omega
    obtain ⟨t, ht⟩ : ∃ t, t = l[i] := ⟨_, rfl⟩
    have okt := hok t (by rw [ht]; exact List.getElem_mem _)
    have hg : ∀ h : i < l.length, l[i] = t := fun h => ht.symm
    rw [List.drop_eq_getElem_cons hlt, ← ht, List.any_cons] at hX
    have e1 : (i : Int) < l.length := by omega
    have e2 : IntKind.i64.wrap ((i : Int) + 1) = ((i + 1 : Nat) : Int) := by rw [w64] <;> omega
    have hK2 : ∀ r, (K ++ r).take n = H := fun r => take_more hK hn r
    have hn2 : ∀ r : Heap, n ≤ (K ++ r).length := fun r => by simp; omega
    have hnc : t.cells = iv t.kind :: (t.site.cells ++ [iv t.oracle]) := rfl
    have q1 := Si.len okt
    have q3 := Si.strip (s := t.site)
    have qu := n13u (s := t.site)
    have qo := Si.one (s := t.site)
    have pc := n13c okt
    have pd := n13d okt
    rw [l_gate_Opens_0, M_loop, ← l_gate_Opens_0]
    unfold worse at hX ih
    by_cases a1 : t.kind = 1
    · simp [a1] at hX
      simp [b_gate_Opens_0, h2, h3, h6, h15, h16, h17, hlt, hg, e1, e2, hnc, q1, q3, qu, qo, pc, pd, a1]
      exact hno _ _ (hK2 _) (hn2 _) hX (by simp)
    · by_cases a3 : t.kind = 3
      · simp [a3] at hX
        simp [b_gate_Opens_0, h2, h3, h6, h15, h16, h17, hlt, hg, e1, e2, hnc, q1, q3, qu, qo, pc, pd, a3]
        exact hno _ _ (hK2 _) (hn2 _) hX (by simp)
      · by_cases a5 : t.kind = 5
        · simp [a5] at hX
          simp [b_gate_Opens_0, h2, h3, h6, h15, h16, h17, hlt, hg, e1, e2, hnc, q1, q3, qu, qo, pc, pd, a5]
          exact hno _ _ (hK2 _) (hn2 _) hX (by simp)
        · rw [decide_eq_false a1, decide_eq_false a3, decide_eq_false a5, Bool.false_or, Bool.false_or, Bool.false_or] at hX
          simp [b_gate_Opens_0, h2, h3, h6, h15, h16, h17, hlt, hg, e1, e2, hnc, q1, q3, qu, qo, pc, pd, a1, a3, a5]
          refine ih (i + 1) _ _ (by omega) hX (hK2 _) (hn2 _) ?_ ?_ ?_ ?_ ?_ ?_ <;> simp [h2, h3, h6, h15, h16]

/-- Does the gate open? -/
def opensAB (a b : Mx) : Bool := mayAB a b && (!(notesAB a b).any worse && (a.bad || !b.bad))

theorem notes_ok {a b : Mx} (oka : ∀ s ∈ a.sites, s.ok) (okb : ∀ s ∈ b.sites, s.ok) : ∀ n ∈ notesAB a b, n.site.ok := by
  have h1 : ∀ (s : Si) (y x : List Ce) (j : Nat), ∀ n ∈ rowN s y j x, n.site = s := by
    intro s y x
    induction x with
    | nil => intro j n hn; simp [rowN] at hn
    | cons c x ih =>
      intro j n hn
      simp only [rowN, List.mem_append] at hn
      rcases hn with hn | hn
      · split at hn
        · simp at hn; subst hn; rfl
        · simp at hn
      · exact ih _ n hn
  have h2 : ∀ (ss : List Si) (rs : List (List Ce)), (∀ s ∈ ss, s.ok) → ∀ n ∈ outN b ss rs, n.site.ok := by
    intro ss
    induction ss with
    | nil => intro rs _ n hn; simp [outN] at hn
    | cons s ss ih =>
      intro rs hs n hn
      cases rs with
      | nil => simp [outN] at hn
      | cons x xs =>
        simp only [outN, List.mem_append] at hn
        rcases hn with hn | hn
        · unfold siteN at hn
          split at hn
          · simp at hn; subst hn; exact hs s (by simp)
          · rw [h1 _ _ _ _ n hn]; exact hs s (by simp)
        · exact ih xs (fun t ht => hs t (by simp [ht])) n hn
  have h3 : ∀ (ss : List Si), (∀ s ∈ ss, s.ok) → ∀ n ∈ newN a ss, n.site.ok := by
    intro ss
    induction ss with
    | nil => intro _ n hn; simp [newN] at hn
    | cons s ss ih =>
      intro hs n hn
      simp only [newN, List.mem_append] at hn
      rcases hn with hn | hn
      · split at hn
        · simp at hn; subst hn; exact hs s (by simp)
        · simp at hn
      · exact ih (fun t ht => hs t (by simp [ht])) n hn
  intro n hn
  unfold notesAB at hn
  rw [List.mem_append] at hn
  rcases hn with hn | hn
  · exact h2 _ _ oka n hn
  · exact h3 _ okb n hn

theorem notes_len {a b : Mx} (fa : a.few) (fb : b.few) : (notesAB a b).length ≤ 4000 := by
  have h1 := outN_len b a.sites a.rows (few30 fa)
  have h2 := newN_len a b.sites
  have hsa := fa.sites
  have hsb := fb.sites
  unfold notesAB
  simp only [List.length_append]
  omega

theorem Opens_eq (a b : Mx) (fa : a.few) (fb : b.few) (oka : ∀ s ∈ a.sites, s.ok) (okb : ∀ s ∈ b.sites, s.ok) :
    eval tbl noExt n_gate_Opens [.agg a.cells, .agg b.cells] [] = some (.bool (opensAB a b), []) := by
  have hca : a.cells = [.bool a.bad, .sl 6 (a.base.map Ce.cells), .sl 11 (a.sites.map Si.cells), .sl 1 (a.rows.map rowV)] := rfl
  have hcb : b.cells = [.bool b.bad, .sl 6 (b.base.map Ce.cells), .sl 11 (b.sites.map Si.cells), .sl 1 (b.rows.map rowV)] := rfl
  have hC := Compare_eq a b fa fb oka okb
  rw [eval_M rfl rfl t_gate_Opens rfl]
  cases hm : mayAB a b with
  | false =>
    rw [hm] at hC
    have hX : opensAB a b = false := by unfold opensAB; rw [hm]; rfl
    rw [hX]
    simp at hC
    rw [hca, hcb] at hC
    have hlp := opens_loop [some a.cells, some b.cells] 2 [] (by simp) (by simp) (.bool false) (fun r => r = some (.bool false, [])) [.code r_gate_Opens_0, .fin [.t 4] 0] false (fun φ' K' _ _ h _ => by cases h) (fun φ' K' p1 p2 _ p3 p4 p5 => by
      simp [r_gate_Opens_0, p3, p4, p5])
    rw [hca, hcb] at hlp
    simp [c_gate_Opens, hca, hcb, hC]
    refine hlp 0 0 _ _ (by simp) (by simp) rfl (by simp) ?_ ?_ ?_ ?_ ?_ ?_ <;> simp
  | true =>
    rw [hm] at hC
    have hX : opensAB a b = (!(notesAB a b).any worse && (a.bad || !b.bad)) := by unfold opensAB; rw [hm]; rfl
    rw [hX]
    simp at hC
    rw [hca, hcb] at hC
    have hlp := opens_loop [some a.cells, some b.cells] 2 (notesAB a b) (notes_len fa fb) (notes_ok oka okb) (.bool true) (fun r => r = some (.bool (!(notesAB a b).any worse && (a.bad || !b.bad)), [])) [.code r_gate_Opens_0, .fin [.t 4] 0] ((notesAB a b).any worse)
      (fun φ' K' p1 p2 p3 p4 => by
        rw [p3]
        simp [p4]) (fun φ' K' p1 p2 p3 p4 p5 p6 => by
        rw [p3]
        have k0 : K'[0]? = some (some a.cells) := get_take p1 rfl
        have k1 : K'[1]? = some (some b.cells) := get_take p1 rfl
        rw [hca] at k0
        rw [hcb] at k1
        obtain ⟨k2, k3⟩ := at0 k0
        cases ha : a.bad <;> simp [r_gate_Opens_0, p4, p5, p6, k0, k1, k2, k3, ha])
    rw [hca, hcb] at hlp
    simp [c_gate_Opens, hca, hcb, hC]
    refine hlp (notesAB a b).length 0 _ _ (by simp) (by simp) rfl (by simp) ?_ ?_ ?_ ?_ ?_ ?_ <;> simp

theorem refOpens_loop (K : Heap) (l : List No) (hl : l.length ≤ 4000) (call : CallF) (Q : Option (V × Heap) → Prop) (kk : List Item) (X : Bool)
    (hno : ∀ φ', X = true → Fr.get φ' 4 = .bool false → Q (retK kk φ' K)) (hexit : ∀ φ', X = false → Q (M call kk φ' K)) :
    ∀ (r i : Nat) (φ : Fr), i + r = l.length → (l.drop i).any worse = X → Fr.get φ 5 = .sl 13 (l.map No.cells) → Fr.get φ 7 = iv i →
      Q (M call (.code l_flotsamref45_Opens_0 :: .blk 0 :: kk) φ K) := by
  intro r
  induction r with
  | zero =>
    intro i φ hi hX h5 h7
    have hlt : ¬ (i : Int) < l.length := by omega
    rw [List.drop_eq_nil_of_le (by omega)] at hX
    rw [l_flotsamref45_Opens_0, M_loop]
    simp [b_flotsamref45_Opens_0, h5, h7, hlt]
    exact hexit _ (by rw [← hX]; rfl)
  | succ r ih =>
    intro i φ hi hX h5 h7
    have hlt : i < l.length := by omega
    obtain ⟨t, ht⟩ : ∃ t, t = l[i] := ⟨_, rfl⟩
    have hg : ∀ h : i < l.length, l[i] = t := fun h => ht.symm
    rw [List.drop_eq_getElem_cons hlt, ← ht, List.any_cons] at hX
    have e1 : (i : Int) < l.length := by omega
    have e2 : IntKind.i64.wrap ((i : Int) + 1) = ((i + 1 : Nat) : Int) := by rw [w64] <;> omega
    have hnc : t.cells = iv t.kind :: (t.site.cells ++ [iv t.oracle]) := rfl
    rw [l_flotsamref45_Opens_0, M_loop, ← l_flotsamref45_Opens_0]
    unfold worse at hX ih
    by_cases a1 : t.kind = 1
    · simp [a1] at hX
      simp [b_flotsamref45_Opens_0, h5, h7, hlt, hg, e1, e2, hnc, a1]
      exact hno _ hX (by simp)
    · by_cases a3 : t.kind = 3
      · simp [a3] at hX
        simp [b_flotsamref45_Opens_0, h5, h7, hlt, hg, e1, e2, hnc, a3]
        exact hno _ hX (by simp)
      · by_cases a5 : t.kind = 5
        · simp [a5] at hX
          simp [b_flotsamref45_Opens_0, h5, h7, hlt, hg, e1, e2, hnc, a5]
          exact hno _ hX (by simp)
        · rw [decide_eq_false a1, decide_eq_false a3, decide_eq_false a5, Bool.false_or, Bool.false_or, Bool.false_or] at hX
          simp [b_flotsamref45_Opens_0, h5, h7, hlt, hg, e1, e2, hnc, a1, a3, a5]
          refine ih (i + 1) _ (by omega) hX ?_ ?_ <;> simp [h5]

theorem refOpens_eq (a b : Mx) (fa : a.few) (fb : b.few) (oka : ∀ s ∈ a.sites, s.ok) (okb : ∀ s ∈ b.sites, s.ok) :
    eval tbl noExt n_flotsamref45_Opens [.agg a.cells, .agg b.cells] [] = some (.bool (opensAB a b), []) := by
  have hca : a.cells = [.bool a.bad, .sl 6 (a.base.map Ce.cells), .sl 11 (a.sites.map Si.cells), .sl 1 (a.rows.map rowV)] := rfl
  have hcb : b.cells = [.bool b.bad, .sl 6 (b.base.map Ce.cells), .sl 11 (b.sites.map Si.cells), .sl 1 (b.rows.map rowV)] := rfl
  have hC := refCompare_eq a b fa fb oka okb
  rw [eval_M rfl rfl t_flotsamref45_Opens rfl]
  cases hm : mayAB a b with
  | false =>
    rw [hm] at hC
    have hX : opensAB a b = false := by unfold opensAB; rw [hm]; rfl
    rw [hX]
    simp at hC
    rw [hca, hcb] at hC
    simp [c_flotsamref45_Opens, hca, hcb, hC]
  | true =>
    rw [hm] at hC
    have hX : opensAB a b = (!(notesAB a b).any worse && (a.bad || !b.bad)) := by unfold opensAB; rw [hm]; rfl
    rw [hX]
    simp at hC
    rw [hca, hcb] at hC
    have hlp := refOpens_loop [some a.cells, some b.cells] (notesAB a b) (notes_len fa fb) (eval tbl noExt) (fun r => r = some (.bool (!(notesAB a b).any worse), [])) [.code r_flotsamref45_Opens_0, .fin [.t 4] 0] ((notesAB a b).any worse)
      (fun φ' p3 p4 => by rw [p3]; simp [p4]) (fun φ' p3 => by rw [p3]; simp [r_flotsamref45_Opens_0])
    rw [hca, hcb] at hlp
    cases ha : a.bad <;> cases hb : b.bad <;> rw [ha, hb] at hC hlp <;> simp [c_flotsamref45_Opens, hca, hcb, hC, ha, hb]
    all_goals
      have h2 := hlp (notesAB a b).length 0
      first
        | (refine (h2 _ (by simp) (by simp) ?_ ?_).trans ?_ <;> simp)

theorem count_loop (K : Heap) (l : List No) (hl : l.length ≤ 4000) (k : Int) (call : CallF) (Q : Option (V × Heap) → Prop) (kk : List Item) (X : Nat)
    (hexit : ∀ φ', Fr.get φ' 5 = iv X → Q (M call kk φ' K)) :
    ∀ (r i c : Nat) (φ : Fr), i + r = l.length → c ≤ i → c + (l.drop i).countP (fun n => decide (n.kind = k)) = X → Fr.get φ 0 = .sl 13 (l.map No.cells) → Fr.get φ 1 = iv k → Fr.get φ 5 = iv c → Fr.get φ 6 = iv i →
      Q (M call (.code l_flotsamlaw45_count_0 :: .blk 0 :: kk) φ K) := by
  intro r
  induction r with
  | zero =>
    intro i c φ hi hc hX h0 h1 h5 h6
    have hlt : ¬ (i : Int) < l.length := by omega
    rw [List.drop_eq_nil_of_le (by omega)] at hX
    simp at hX
    subst hX
    rw [l_flotsamlaw45_count_0, M_loop]
    simp [b_flotsamlaw45_count_0, h0, h1, h5, h6, hlt]
    exact hexit _ (by simp [h5])
  | succ r ih =>
    intro i c φ hi hc hX h0 h1 h5 h6
    have hlt : i < l.length := by omega
    obtain ⟨t, ht⟩ : ∃ t, t = l[i] := ⟨_, rfl⟩
    have hg : ∀ h : i < l.length, l[i] = t := fun h => ht.symm
    rw [List.drop_eq_getElem_cons hlt, ← ht, List.countP_cons] at hX
    have e1 : (i : Int) < l.length := by omega
    have e2 : IntKind.i64.wrap ((i : Int) + 1) = ((i + 1 : Nat) : Int) := by rw [w64] <;> omega
    have e3 : IntKind.i64.wrap ((c : Int) + 1) = ((c + 1 : Nat) : Int) := by rw [w64] <;> omega
    have hnc : t.cells = iv t.kind :: (t.site.cells ++ [iv t.oracle]) := rfl
    rw [l_flotsamlaw45_count_0, M_loop, ← l_flotsamlaw45_count_0]
    by_cases a1 : t.kind = k
    · simp [a1] at hX
      simp [b_flotsamlaw45_count_0, h0, h1, h5, h6, hlt, hg, e1, e2, e3, hnc, a1]
      refine ih (i + 1) (c + 1) _ (by omega) (by omega) (by omega) ?_ ?_ ?_ ?_ <;> simp [h0, h1]
    · simp [a1] at hX
      simp [b_flotsamlaw45_count_0, h0, h1, h5, h6, hlt, hg, e1, e2, e3, hnc, a1]
      refine ih (i + 1) c _ (by omega) (by omega) (by omega) ?_ ?_ ?_ ?_ <;> simp [h0, h1, h5]

def kindC (l : List No) (k : Int) : Nat := l.countP fun n => decide (n.kind = k)

theorem count_eq (l : List No) (hl : l.length ≤ 4000) (k : Int) (H : Heap) : eval tbl noExt n_flotsamlaw45_count [.sl 13 (l.map No.cells), iv k] H = some (iv (kindC l k), H) := by
  rw [eval_M rfl rfl t_flotsamlaw45_count rfl]
  have hlp := count_loop H l hl k (eval tbl noExt) (fun r => r = some (iv (kindC l k), H)) [.code r_flotsamlaw45_count_0, .fin [.t 4] H.length] (kindC l k) (fun φ' p => by simp [r_flotsamlaw45_count_0, p])
  simp [c_flotsamlaw45_count]
  refine hlp l.length 0 0 _ (by omega) (by omega) (by simp [kindC]) ?_ ?_ ?_ ?_ <;> simp

end Go.AM.Spec

namespace Go.AM.Spec
set_option linter.unusedVariables false
set_option linter.unusedSimpArgs false

/-- The row of a site. -/
def rowAt (m : Mx) (s : Si) : List Ce := (m.rows[rowOf m.sites s - 1]?).getD []

theorem rowOf_zero {l : List Si} {s : Si} : rowOf l s = 0 ↔ s ∉ l := by
  unfold rowOf
  cases h : l.findIdx? fun t => decide (s = t) with
  | none =>
    rw [List.findIdx?_eq_none_iff] at h
    simp only [true_iff]
    intro hs
    have := h s hs
    simp at this
  | some j =>
    obtain ⟨h1, h2, _⟩ := List.findIdx?_eq_some_iff_getElem.1 h
    simp only [Nat.add_eq_zero_iff, Nat.one_ne_zero, and_false, false_iff, Classical.not_not]
    simp only [decide_eq_true_eq] at h2
    rw [h2]
    exact List.getElem_mem _

theorem rowOf_get {l : List Si} (hn : l.Nodup) {i : Nat} {s : Si} (h : l[i]? = some s) : rowOf l s = i + 1 := by
  obtain ⟨hi, hs⟩ := List.getElem?_eq_some_iff.1 h
  unfold rowOf
  have : l.findIdx? (fun t => decide (s = t)) = some i := by
    rw [List.findIdx?_eq_some_iff_getElem]
    refine ⟨hi, by simp [hs], fun q hq => ?_⟩
    have hlt : q < l.length := by omega
    have := (List.pairwise_iff_getElem.1 hn) q i hlt hi hq
    rw [hs] at this
    simpa using fun h => this h.symm
  rw [this]

/-- How many cells say a kind. -/
def cntK (k : Int) : List Ce → List Ce → Nat
  | x :: xs, y :: ys => (if kindN x.says y.says = k then 1 else 0) + cntK k xs ys
  | _, _ => 0

theorem rowN_cnt (k : Int) (hk : 0 < k) (s : Si) (y : List Ce) : ∀ (x : List Ce) (j : Nat), x.length + j = y.length → kindC (rowN s y j x) k = cntK k x (y.drop j)
  | [], j, _ => by cases y.drop j <;> simp [rowN, kindC, cntK]
  | c :: x, j, h => by
    have hj : j < y.length := by simp at h; omega
    have ih := rowN_cnt k hk s y x (j + 1) (by simp at h; omega)
    rw [List.drop_eq_getElem_cons hj]
    unfold kindC at ih ⊢
    rw [rowN, List.countP_append, ih, cntK, List.getElem?_eq_getElem hj]
    simp only [Option.map_some, Option.getD_some]
    by_cases h1 : kindN c.says y[j].says = k
    · rw [h1, if_pos hk]; simp
    · rw [if_neg h1]
      split <;> simp [h1]

theorem cntK_swap {k k' : Int} (h : ∀ a b : Int, kindN a b = k ↔ kindN b a = k') : ∀ x y : List Ce, cntK k x y = cntK k' y x
  | [], [] => rfl
  | [], _ :: _ => rfl
  | _ :: _, [] => rfl
  | c :: x, d :: y => by
    simp only [cntK, cntK_swap h x y]
    have := h c.says d.says
    by_cases h1 : kindN c.says d.says = k
    · rw [if_pos h1, if_pos (this.1 h1)]
    · rw [if_neg h1, if_neg (fun h2 => h1 (this.2 h2))]

theorem kind12 (a b : Int) : kindN a b = 1 ↔ kindN b a = 2 := by
  unfold kindN
  constructor <;> intro h <;> (repeat' (split at h)) <;> (repeat' split) <;> first | rfl | omega
theorem kind34 (a b : Int) : kindN a b = 3 ↔ kindN b a = 4 := by
  unfold kindN
  constructor <;> intro h <;> (repeat' (split at h)) <;> (repeat' split) <;> first | rfl | omega
theorem kind_lt (a b : Int) : kindN a b < 5 := by
  unfold kindN
  repeat' split
  all_goals omega
theorem kind_self {a : Int} (h : a = 0 ∨ a = 1 ∨ a = 2) : kindN a a = 0 := by rcases h with rfl | rfl | rfl <;> rfl

theorem cntK_big {k : Int} (hk : 5 ≤ k) : ∀ x y : List Ce, cntK k x y = 0
  | [], _ => rfl
  | _ :: _, [] => rfl
  | c :: x, d :: y => by
    have := kind_lt c.says d.says
    rw [cntK, cntK_big hk x y, if_neg (by omega)]

/-- A site's share of a kind. -/
def share (k : Int) (a b : Mx) (s : Si) : Nat := if s ∈ b.sites then cntK k (rowAt a s) (rowAt b s) else if k = 5 then 1 else 0

theorem Mx.good.rowLen {m : Mx} {N : Nat} (g : m.good N) {s : Si} (h : s ∈ m.sites) : (rowAt m s).length = N ∧ rowAt m s ∈ m.rows := by
  obtain ⟨i, hi, e⟩ := List.getElem_of_mem h
  have h1 : m.sites[i]? = some s := by rw [List.getElem?_eq_getElem hi, e]
  have h2 := rowOf_get g.nd h1
  have h3 : i < m.rows.length := by rw [g.rows]; exact hi
  unfold rowAt
  rw [h2, Nat.add_sub_cancel, List.getElem?_eq_getElem h3, Option.getD_some]
  exact ⟨g.len _ (List.getElem_mem _), List.getElem_mem _⟩

theorem out_cnt {a b : Mx} {N : Nat} (ga : a.good N) (gb : b.good N) (k : Int) (hk : 0 < k) : ∀ (r i : Nat), i + r = a.sites.length → kindC (outN b (a.sites.drop i) (a.rows.drop i)) k = ((a.sites.drop i).map (share k a b)).sum := by
  intro r
  induction r with
  | zero =>
    intro i hi
    rw [List.drop_eq_nil_of_le (by omega)]
    simp [outN, kindC]
  | succ r ih =>
    intro i hi
    have h1 : i < a.sites.length := by omega
    have h2 : i < a.rows.length := by rw [ga.rows]; exact h1
    have ih := ih (i + 1) (by omega)
    rw [List.drop_eq_getElem_cons h1, List.drop_eq_getElem_cons h2, outN, List.map_cons, List.sum_cons, ← ih]
    unfold kindC
    rw [List.countP_append]
    congr 1
    have hs : a.sites[i]? = some a.sites[i] := List.getElem?_eq_getElem h1
    have hrow : rowAt a a.sites[i] = a.rows[i] := by
      unfold rowAt
      rw [rowOf_get ga.nd hs, Nat.add_sub_cancel, List.getElem?_eq_getElem h2]; rfl
    unfold siteN share
    by_cases hm : a.sites[i] ∈ b.sites
    · have hz : ¬ rowOf b.sites a.sites[i] = 0 := fun h => (rowOf_zero.1 h) hm
      rw [if_neg hz, if_pos hm, hrow]
      have hl := (gb.rowLen hm).1
      have := rowN_cnt k hk a.sites[i] (rowAt b a.sites[i]) a.rows[i] 0 (by rw [hl, ga.len _ (List.getElem_mem _)]; rfl)
      rw [List.drop_zero] at this
      exact this
    · rw [if_pos (rowOf_zero.2 hm), if_neg hm]
      by_cases h5 : k = 5
      · subst h5; rfl
      · rw [if_neg h5]
        simp only [List.countP_cons, List.countP_nil, Nat.zero_add]
        rw [if_neg]
        simpa using fun h => h5 h.symm

theorem new_cnt (a : Mx) (k : Int) : ∀ ss : List Si, kindC (newN a ss) k = if k = 6 then ss.countP (fun s => decide (s ∉ a.sites)) else 0
  | [] => by simp [newN, kindC]
  | s :: ss => by
    have ih := new_cnt a k ss
    unfold kindC at ih ⊢
    rw [newN, List.countP_append, ih]
    by_cases h6 : k = 6
    · subst h6
      by_cases hs : s ∈ a.sites
      · have hz : ¬ rowOf a.sites s = 0 := fun h => (rowOf_zero.1 h) hs
        simp [hz, hs]
      · have hz := rowOf_zero.2 hs
        simp [hz, hs]; omega
    · have : ¬ (6 : Int) = k := fun h => h6 h.symm
      simp only [if_neg h6]
      split <;> simp [this]

theorem sum_filter {f g : Si → Nat} {p : Si → Bool} (h1 : ∀ s, p s = true → f s = g s) (h0 : ∀ s, p s = false → f s = 0) : ∀ l : List Si, (l.map f).sum = ((l.filter p).map g).sum
  | [] => rfl
  | s :: l => by
    have ih := sum_filter h1 h0 l
    rw [List.map_cons, List.sum_cons, ih, List.filter_cons]
    cases hp : p s with
    | true => rw [h1 s hp]; simp
    | false => rw [h0 s hp]; simp

theorem perm_both {l m : List Si} (hl : l.Nodup) (hm : m.Nodup) : (l.filter fun s => decide (s ∈ m)).Perm (m.filter fun s => decide (s ∈ l)) := by
  refine (List.perm_ext_iff_of_nodup (hl.sublist List.filter_sublist) (hm.sublist List.filter_sublist)).2 fun s => ?_
  simp only [List.mem_filter, decide_eq_true_eq]
  exact And.comm

theorem notes_cnt {a b : Mx} {N : Nat} (ga : a.good N) (gb : b.good N) (k : Int) (hk : 0 < k) : kindC (notesAB a b) k = (a.sites.map (share k a b)).sum + if k = 6 then b.sites.countP (fun s => decide (s ∉ a.sites)) else 0 := by
  have h1 := out_cnt ga gb k hk a.sites.length 0 (by omega)
  have h2 := new_cnt a k b.sites
  rw [List.drop_zero, List.drop_zero] at h1
  unfold notesAB kindC at *
  rw [List.countP_append, h1, h2]

/-- What is told one way is told the other way. -/
theorem turn_cnt {a b : Mx} {N : Nat} (ga : a.good N) (gb : b.good N) {k k' : Int} (h0 : 0 < k) (h0' : 0 < k') (h5 : k < 5) (h5' : k' < 5) (hs : ∀ a b : Int, kindN a b = k ↔ kindN b a = k') : kindC (notesAB a b) k = kindC (notesAB b a) k' := by
  rw [notes_cnt ga gb k h0, notes_cnt gb ga k' h0', if_neg (by omega), if_neg (by omega)]
  rw [sum_filter (p := fun s => decide (s ∈ b.sites)) (g := fun s => cntK k (rowAt a s) (rowAt b s)) (fun s h => by simp only [decide_eq_true_eq] at h; simp [share, h]) (fun s h => by simp only [decide_eq_false_iff_not] at h; simp only [share, if_neg h]; rw [if_neg (by omega)])]
  rw [sum_filter (f := share k' b a) (p := fun s => decide (s ∈ a.sites)) (g := fun s => cntK k' (rowAt b s) (rowAt a s)) (fun s h => by simp only [decide_eq_true_eq] at h; simp [share, h]) (fun s h => by simp only [decide_eq_false_iff_not] at h; simp only [share, if_neg h]; rw [if_neg (by omega)])]
  have e : (fun s => cntK k (rowAt a s) (rowAt b s)) = fun s => cntK k' (rowAt b s) (rowAt a s) := funext fun s => cntK_swap hs _ _
  rw [e]
  exact ((perm_both ga.nd gb.nd).map _).sum_nat

theorem gone_cnt {a b : Mx} {N : Nat} (ga : a.good N) (gb : b.good N) : kindC (notesAB a b) 5 = kindC (notesAB b a) 6 := by
  rw [notes_cnt ga gb 5 (by omega), notes_cnt gb ga 6 (by omega), if_neg (by omega), if_pos rfl]
  have h1 : ∀ l : List Si, (l.map (share 5 a b)).sum = l.countP fun s => decide (s ∉ b.sites) := by
    intro l
    induction l with
    | nil => rfl
    | cons s l ih =>
      rw [List.map_cons, List.sum_cons, ih, List.countP_cons]
      by_cases h : s ∈ b.sites
      · simp [share, h, cntK_big]
      · simp [share, h]; omega
  have h2 : ∀ l : List Si, (l.map (share 6 b a)).sum = 0 := by
    intro l
    induction l with
    | nil => rfl
    | cons s l ih =>
      rw [List.map_cons, List.sum_cons, ih]
      by_cases h : s ∈ a.sites
      · simp [share, h, cntK_big]
      · simp [share, h]
  rw [h1, h2]; omega

/-- Of a matrix and itself nothing is told. -/
theorem self_nil {a : Mx} {N : Nat} (ga : a.good N) : notesAB a a = [] := by
  have hnil : ∀ l : List No, (∀ n ∈ l, False) → l = [] := by
    intro l h
    cases l with
    | nil => rfl
    | cons n l => exact (h n (by simp)).elim
  have hout : ∀ (r i : Nat), i + r = a.sites.length → outN a (a.sites.drop i) (a.rows.drop i) = [] := by
    intro r
    induction r with
    | zero => intro i hi; rw [List.drop_eq_nil_of_le (by omega)]; rfl
    | succ r ih =>
      intro i hi
      have h1 : i < a.sites.length := by omega
      have h2 : i < a.rows.length := by rw [ga.rows]; exact h1
      rw [List.drop_eq_getElem_cons h1, List.drop_eq_getElem_cons h2, outN, ih (i + 1) (by omega), List.append_nil]
      have hs : a.sites[i]? = some a.sites[i] := List.getElem?_eq_getElem h1
      unfold siteN
      rw [rowOf_get ga.nd hs, if_neg (by omega), Nat.add_sub_cancel, List.getElem?_eq_getElem h2, Option.getD_some]
      have hrow : ∀ (s : Si) (y x : List Ce) (j : Nat), y.drop j = x → (∀ c ∈ y, says3 c) → rowN s y j x = [] := by
        intro s y x
        induction x with
        | nil => intro j _ _; rfl
        | cons c x ihx =>
          intro j hj hy
          have hjl : j < y.length := by
            rcases Nat.lt_or_ge j y.length with h | h
            · exact h
            · rw [List.drop_eq_nil_of_le h] at hj; cases hj
          rw [List.drop_eq_getElem_cons hjl] at hj
          obtain ⟨rfl, hj2⟩ := List.cons.inj hj
          rw [rowN, ihx (j + 1) hj2 hy, List.getElem?_eq_getElem hjl]
          simp only [Option.map_some, Option.getD_some]
          rw [kind_self (hy _ (List.getElem_mem _))]; rfl
      exact hrow _ _ _ 0 (by simp) (ga.says _ (List.getElem_mem _))
  have hnew : ∀ ss : List Si, (∀ s ∈ ss, s ∈ a.sites) → newN a ss = [] := by
    intro ss
    induction ss with
    | nil => intro _; rfl
    | cons s ss ih =>
      intro h
      have hz : ¬ rowOf a.sites s = 0 := fun hh => (rowOf_zero.1 hh) (h s (by simp))
      rw [newN, if_neg hz, ih (fun t ht => h t (by simp [ht]))]; rfl
  have h1 := hout a.sites.length 0 (by omega)
  rw [List.drop_zero, List.drop_zero] at h1
  unfold notesAB
  rw [h1, hnew _ (fun s h => h)]; rfl

theorem kill_le : ∀ (x y : List Ce), x.length = y.length → cntK 1 x y = 0 → cntK 3 x y = 0 → (∀ c ∈ y, says3 c) → killN x ≤ killN y
  | [], [], _, _, _, _ => Nat.le_refl _
  | [], _ :: _, h, _, _, _ => by simp at h
  | _ :: _, [], h, _, _, _ => by simp at h
  | c :: x, d :: y, h, h1, h3, hy => by
    simp only [cntK] at h1 h3
    have ih := kill_le x y (by simpa using h) (by omega) (by omega) (fun c hc => hy c (by simp [hc]))
    have hd := hy d (by simp)
    have k1 : ¬ kindN c.says d.says = 1 := fun hh => by rw [if_pos hh] at h1; omega
    have k3 : ¬ kindN c.says d.says = 3 := fun hh => by rw [if_pos hh] at h3; omega
    unfold killN at ih ⊢
    rw [List.countP_cons, List.countP_cons]
    by_cases hc : c.says = 1
    · have hd1 : d.says = 1 := by
        unfold says3 at hd
        rcases hd with hd | hd | hd
        · exfalso; rw [hc, hd] at k1; exact k1 rfl
        · exact hd
        · exfalso; rw [hc, hd] at k3; exact k3 rfl
      simp [isSays, hc, hd1]; omega
    · simp [isSays, hc]; omega

theorem sum_kills {m : Mx} {N : Nat} (g : m.good N) : sumN killN m.rows = (m.sites.map fun s => killN (rowAt m s)).sum := by
  have key : ∀ (r i : Nat), i + r = m.sites.length → ((m.rows.drop i).map killN).sum = ((m.sites.drop i).map fun s => killN (rowAt m s)).sum := by
    intro r
    induction r with
    | zero =>
      intro i hi
      have hr := g.rows
      rw [List.drop_eq_nil_of_le (by omega), List.drop_eq_nil_of_le (by omega)]; rfl
    | succ r ih =>
      intro i hi
      have h1 : i < m.sites.length := by omega
      have h2 : i < m.rows.length := by rw [g.rows]; exact h1
      rw [List.drop_eq_getElem_cons h1, List.drop_eq_getElem_cons h2, List.map_cons, List.map_cons, List.sum_cons, List.sum_cons, ih (i + 1) (by omega)]
      have hs : m.sites[i]? = some m.sites[i] := List.getElem?_eq_getElem h1
      congr 1
      unfold rowAt
      rw [rowOf_get g.nd hs, Nat.add_sub_cancel, List.getElem?_eq_getElem h2]; rfl
  have := key m.sites.length 0 (by omega)
  rw [List.drop_zero, List.drop_zero] at this
  exact this

theorem worse_cnt {l : List No} (h : l.any worse = false) : kindC l 1 = 0 ∧ kindC l 3 = 0 ∧ kindC l 5 = 0 := by
  rw [List.any_eq_false] at h
  unfold kindC
  refine ⟨?_, ?_, ?_⟩ <;> rw [List.countP_eq_zero] <;> intro n hn hh <;> have := h n hn <;> unfold worse at this <;> simp at this hh <;> omega

/-- If the gate opens, the score is no lower. -/
theorem score_up {a b : Mx} {N : Nat} (ga : a.good N) (gb : b.good N) (h : (notesAB a b).any worse = false) : sumN killN a.rows ≤ sumN killN b.rows := by
  obtain ⟨c1, c3, c5⟩ := worse_cnt h
  rw [notes_cnt ga gb 1 (by omega), if_neg (by omega), Nat.add_zero] at c1
  rw [notes_cnt ga gb 3 (by omega), if_neg (by omega), Nat.add_zero] at c3
  rw [notes_cnt ga gb 5 (by omega), if_neg (by omega), Nat.add_zero] at c5
  have z : ∀ (f : Si → Nat) (l : List Si), (l.map f).sum = 0 → ∀ s ∈ l, f s = 0 := by
    intro f l
    induction l with
    | nil => intro _ s hs; cases hs
    | cons t l ih =>
      intro hz s hs
      rw [List.map_cons, List.sum_cons] at hz
      rcases List.mem_cons.1 hs with rfl | hs
      · omega
      · exact ih (by omega) s hs
  have hin : ∀ s ∈ a.sites, s ∈ b.sites := fun s hs => by
    have := z _ _ c5 s hs
    unfold share at this
    by_cases hb : s ∈ b.sites
    · exact hb
    · rw [if_neg hb] at this; simp at this
  have hle : ∀ s ∈ a.sites, killN (rowAt a s) ≤ killN (rowAt b s) := fun s hs => by
    have hb := hin s hs
    have h1 := z _ _ c1 s hs
    have h3 := z _ _ c3 s hs
    unfold share at h1 h3
    rw [if_pos hb] at h1 h3
    refine kill_le _ _ ?_ h1 h3 (gb.says _ (gb.rowLen hb).2)
    rw [(ga.rowLen hs).1, (gb.rowLen hb).1]
  rw [sum_kills ga, sum_kills gb]
  have s1 : ∀ l : List Si, (∀ s ∈ l, killN (rowAt a s) ≤ killN (rowAt b s)) → (l.map fun s => killN (rowAt a s)).sum ≤ (l.map fun s => killN (rowAt b s)).sum := by
    intro l
    induction l with
    | nil => intro _; exact Nat.le_refl _
    | cons s l ih =>
      intro hl
      rw [List.map_cons, List.map_cons, List.sum_cons, List.sum_cons]
      have := ih (fun t ht => hl t (by simp [ht]))
      have := hl s (by simp)
      omega
  have s2 : (a.sites.filter fun s => decide (s ∈ b.sites)) = a.sites := List.filter_eq_self.2 fun s hs => by simpa using hin s hs
  have s3 := ((perm_both ga.nd gb.nd).map fun s => killN (rowAt b s)).sum_nat
  rw [s2] at s3
  have s4 : ∀ l : List Si, ((l.filter fun s => decide (s ∈ a.sites)).map fun s => killN (rowAt b s)).sum ≤ (l.map fun s => killN (rowAt b s)).sum := by
    intro l
    induction l with
    | nil => exact Nat.le_refl _
    | cons s l ih =>
      rw [List.filter_cons, List.map_cons, List.sum_cons]
      split
      · rw [List.map_cons, List.sum_cons]; omega
      · omega
  have := s1 _ hle
  have := s4 b.sites
  omega

end Go.AM.Spec

namespace Go.AM.Spec
set_option linter.unusedVariables false
set_option linter.unusedSimpArgs false
set_option maxHeartbeats 4000000
set_option maxRecDepth 10000

theorem knows45 : eval tbl noExt n_flotsamlaw45_knows [] [] = some (.bool true, []) := (eval_iff ..).2 ⟨400, by kernel_rfl⟩

theorem mayAB_comm (a b : Mx) : mayAB a b = mayAB b a := by
  unfold mayAB
  cases a.right <;> cases b.right <;> simp [eq_comm]

theorem GateTurns_eq (a : Mx) (fa : a.fit) (b : Mx) (fb : b.fit) : ∃ H', eval tbl noExt n_flotsamlaw45_GateTurns [.agg a.cells, .agg b.cells] [] = some (.bool true, H') := by
  refine ⟨[], ?_⟩
  have hk := knows45
  have w0 : IntKind.i64.wrap 0 = 0 := by rw [w64] <;> omega
  have hFa := Few_eq a []
  have hFb := Few_eq b []
  have al : a.cells.length = 4 := rfl
  have at4 : a.cells.take 4 = a.cells := rfl
  have as4 : a.cells.map V.strip = a.cells := rfl
  have au : ∀ n, V.underAll n a.cells = true := fun n => rfl
  have bl : b.cells.length = 4 := rfl
  have bt4 : b.cells.take 4 = b.cells := rfl
  have bs : b.cells.map V.strip = b.cells := rfl
  have bu : ∀ n, V.underAll n b.cells = true := fun n => rfl
  rw [eval_M rfl rfl t_flotsamlaw45_GateTurns rfl]
  cases hba : a.fewB with
  | false =>
    rw [hba] at hFa
    simp [c_flotsamlaw45_GateTurns, al, at4, as4, au, bl, bt4, bs, bu, hFa, hk]
  | true =>
    rw [hba] at hFa
    cases hbb : b.fewB with
    | false =>
      rw [hbb] at hFb
      simp [c_flotsamlaw45_GateTurns, al, at4, as4, au, bl, bt4, bs, bu, hFa, hFb, hk]
    | true =>
      rw [hbb] at hFb
      have wa := Mx.few_of hba
      have wb := Mx.few_of hbb
      have oka : ∀ s ∈ a.sites, s.ok := fun s hs => (fa.2.1 s hs).1
      have okb : ∀ s ∈ b.sites, s.ok := fun s hs => (fb.2.1 s hs).1
      have h1 := Compare_eq a b wa wb oka okb
      have h2 := Compare_eq b a wb wa okb oka
      have h3 := Compare_eq a a wa wa oka oka
      have h4 := SRight_eq a wa oka []
      have h5 := Opens_eq a a wa wa oka oka
      have h6 := Opens_eq a b wa wb oka okb
      have h7 := Score_eq a wa []
      have h8 := Score_eq b wb []
      have haa : mayAB a a = a.right := by unfold mayAB; simp
      rw [haa] at h3
      have hoa : opensAB a a = a.right := by
        unfold opensAB
        rw [haa]
        cases hr : a.right with
        | false => rfl
        | true =>
          rw [self_nil (Mx.right_good hr wa oka)]
          cases a.bad <;> rfl
      rw [hoa] at h5
      have hself : a.right = true → notesAB a a = [] := fun hr => self_nil (Mx.right_good hr wa oka)
      rw [← mayAB_comm a b] at h2
      cases hm : mayAB a b with
      | false =>
        rw [hm] at h1 h2
        have ho : opensAB a b = false := by unfold opensAB; rw [hm]; rfl
        rw [ho] at h6
        have c0 := fun k => count_eq [] (by simp) k []
        simp only [List.map_nil, kindC, List.countP_nil] at c0
        cases hr : a.right with
        | false =>
          rw [hr] at h3 h4 h5
          simp at h1 h2 h3 h4 h5 h6 c0
          simp [c_flotsamlaw45_GateTurns, al, at4, as4, au, bl, bt4, bs, bu, hFa, hFb, hk, w0, h1, h2, h3, h4, h5, h6, c0]
        | true =>
          rw [hr] at h3 h4 h5
          rw [hself hr] at h3
          simp at h1 h2 h3 h4 h5 h6 c0
          simp [c_flotsamlaw45_GateTurns, al, at4, as4, au, bl, bt4, bs, bu, hFa, hFb, hk, w0, h1, h2, h3, h4, h5, h6, c0]
      | true =>
        have hm' := hm
        unfold mayAB at hm'
        simp only [Bool.and_eq_true, decide_eq_true_eq] at hm'
        obtain ⟨hr, hr2, hN⟩ := hm'
        have ga := Mx.right_good hr wa oka
        have gb := Mx.right_good hr2 wb okb
        rw [← hN] at gb
        rw [hm] at h1 h2
        rw [hr] at h3 h4 h5
        rw [hself hr] at h3
        have x1 := fun k => count_eq (notesAB a b) (notes_len wa wb) k []
        have x2 := fun k => count_eq (notesAB b a) (notes_len wb wa) k []
        have t1 : kindC (notesAB a b) 1 = kindC (notesAB b a) 2 := turn_cnt ga gb (by omega) (by omega) (by omega) (by omega) kind12
        have t2 : kindC (notesAB a b) 2 = kindC (notesAB b a) 1 := turn_cnt ga gb (by omega) (by omega) (by omega) (by omega) (fun x y => (kind12 y x).symm)
        have t3 : kindC (notesAB a b) 3 = kindC (notesAB b a) 4 := turn_cnt ga gb (by omega) (by omega) (by omega) (by omega) kind34
        have t4 : kindC (notesAB a b) 4 = kindC (notesAB b a) 3 := turn_cnt ga gb (by omega) (by omega) (by omega) (by omega) (fun x y => (kind34 y x).symm)
        have t5 : kindC (notesAB a b) 5 = kindC (notesAB b a) 6 := gone_cnt ga gb
        have t6 : kindC (notesAB a b) 6 = kindC (notesAB b a) 5 := (gone_cnt gb ga).symm
        have hup : opensAB a b = true → sumN killN a.rows ≤ sumN killN b.rows := fun ho => by
          unfold opensAB at ho
          simp only [Bool.and_eq_true, Bool.not_eq_true'] at ho
          have := score_up ga gb ho.2.1
          omega
        simp at h1 h2 h3 h4 h5 h6
        generalize hA : (notesAB a b).map No.cells = A at h1 x1
        generalize hB : (notesAB b a).map No.cells = B at h2 x2
        cases ho : opensAB a b with
        | false =>
          rw [ho] at h6
          simp [c_flotsamlaw45_GateTurns, al, at4, as4, au, bl, bt4, bs, bu, hFa, hFb, hk, w0, h1, h2, h3, h4, h5, h6, x1, x2, t1, t2, t3, t4, t5, t6]
        | true =>
          rw [ho] at h6
          have hs := hup ho
          by_cases hf : 0 < kindC (notesAB b a) 5
          · simp [c_flotsamlaw45_GateTurns, al, at4, as4, au, bl, bt4, bs, bu, hFa, hFb, hk, w0, h1, h2, h3, h4, h5, h6, x1, x2, t1, t2, t3, t4, t5, t6, hf]
          · simp [c_flotsamlaw45_GateTurns, al, at4, as4, au, bl, bt4, bs, bu, hFa, hFb, hk, w0, h1, h2, h3, h4, h5, h6, x1, x2, t1, t2, t3, t4, t5, t6, hf, h7, h8, hs]

end Go.AM.Spec

namespace Go.AM.Spec
set_option linter.unusedVariables false
set_option linter.unusedSimpArgs false
set_option maxHeartbeats 4000000
set_option maxRecDepth 10000

def nameN (s : Si) : List UInt8 := if s.name.2 = true then s.name.1 else [63]
/-- A note's line. -/
def lineN (n : No) : List UInt8 := wordN n.kind ++ [32] ++ nameN n.site ++ (if n.kind = 5 ∨ n.kind = 6 then [] else [32] ++ text n.oracle) ++ [10]
def showN (l : List No) : List UInt8 := l.flatMap lineN

theorem name_len (s : Si) : s.name.1.length ≤ 1100 := by
  unfold Si.name
  split
  · simp
  · split
    · simp
    · rename_i h _
      have hm : s.may = true := by
        cases hc : s.may with
        | true => rfl
        | false => exact absurd (.inr (.inr (.inr (.inr hc)))) h
      obtain ⟨h1, h2⟩ := parts_len hm
      have := jn_len [32] 100 s.parts h2
      have h3 : (100 + 1) * s.parts.length ≤ 101 * 10 := Nat.mul_le_mul_left _ h1
      simp only [List.length_singleton] at this
      show (Go.Lib.join s.parts [32]).length ≤ 1100
      omega

theorem wordN_len (k : Int) : (wordN k).length ≤ 5 := by
  unfold wordN
  repeat' split
  all_goals simp

theorem nameN_len (s : Si) : (nameN s).length ≤ 1100 := by
  unfold nameN
  split
  · exact name_len s
  · simp

theorem lineN_len (n : No) : (lineN n).length ≤ 1200 := by
  have h1 := wordN_len n.kind
  have h2 := nameN_len n.site
  have h3 := text_length n.oracle
  unfold lineN
  simp only [List.length_append, List.length_singleton]
  split <;> simp <;> omega

theorem gjoin_eq (l : List (List UInt8)) (hl : l.length ≤ 10) (hw : ∀ w ∈ l, w.length ≤ 2000) (H : Heap) : eval tbl noExt n_strings_Join [.sl 1 (l.map tx), .str [32]] H = some (.str (Go.Lib.join l [32]), H) := by
  have hlen := jn_len [32] 2000 l hw
  rw [eval_X rfl (show noExt n_strings_Join = some xJoin from rfl)]
  simp only [xJoin, textsOf_map]
  rw [if_pos ⟨by simp only [List.length_singleton] at hlen; have : (2000 + 1) * l.length ≤ 2001 * 10 := Nat.mul_le_mul_left _ hl; omega, by omega⟩]

theorem WriteString_eq (R : Heap) (bs s : List UInt8) (h1 : bs.length < 100000000) (h2 : s.length < 100000000) : eval tbl noExt n_pstrings_Builder_WriteString [.bptr 0, .str s] (some [.bld bT bE bs] :: R) = some (.tup [.int .i64 s.length, .undef], some [.bld bT bE (bs ++ s)] :: R) := by
  rw [eval_X (e := xWriteString bT bE) rfl rfl]
  simp [xWriteString, h1, h2]

theorem BString_eq0 (R : Heap) (bs : List UInt8) : eval tbl noExt n_pstrings_Builder_String [.bptr 0] (some [.bld bT bE bs] :: R) = some (.str bs, none :: R) := by
  rw [eval_X (e := xString bT bE) rfl rfl]
  simp [xString]

section
variable {s : Si}
theorem n13f (ok : s.ok) : ∀ y : V, (s.cells ++ [y])[11]? = some y := fun y => by
  rw [List.getElem?_append_right (by rw [Si.len ok]; omega), Si.len ok]; rfl
theorem n13g (ok : s.ok) : ∀ (y : V) (h : 11 < (s.cells ++ [y]).length), (s.cells ++ [y])[11] = y := fun y h => by
  have := n13f ok y
  rw [List.getElem?_eq_getElem h] at this
  exact Option.some.inj this
theorem n13h (ok : s.ok) : ∀ y : V, (s.cells ++ [y]).take 11 = s.cells := fun y => by
  rw [List.take_append_of_le_length (by rw [Si.len ok]; omega)]
  exact Si.take ok
end

def No.fit (n : No) : Prop := n.site.ok ∧ -9223372036854775808 ≤ n.oracle ∧ n.oracle ≤ 9223372036854775807

theorem show_loop (l : List No) (hl : l.length ≤ 40) (hok : ∀ x ∈ l, x.fit) (X : List UInt8) :
    ∀ (r i : Nat) (acc : List UInt8) (φ : Fr) (R : Heap), i + r = l.length → acc ++ showN (l.drop i) = X → acc.length ≤ 1200 * i → Fr.get φ 3 = .bptr 0 → Fr.get φ 9 = .sl 13 (l.map No.cells) → Fr.get φ 10 = iv l.length → Fr.get φ 11 = iv i →
      M (eval tbl noExt) [.code l_gate_Show_0, .blk 0, .code r_gate_Show_0, .fin [.t 2] 0] φ (some [.bld bT bE acc] :: R) = some (.str X, []) := by
  intro r
  induction r with
  | zero =>
    intro i acc φ R hi hX ha h3 h9 h10 h11
    have hlt : ¬ (i : Int) < l.length := by omega
    rw [List.drop_eq_nil_of_le (by omega)] at hX
    simp [showN] at hX
    subst hX
    rw [l_gate_Show_0, M_loop]
    simp [b_gate_Show_0, r_gate_Show_0, h3, h9, h10, h11, hlt, BString_eq0]
  | succ r ih =>
    intro i acc φ R hi hX ha h3 h9 h10 h11
    have hlt : i < l.length := by omega
    obtain ⟨t, ht⟩ : ∃ t, t = l[i] := ⟨_, rfl⟩
    obtain ⟨okt, o1, o2⟩ := hok t (by rw [ht]; exact List.getElem_mem _)
    have hg : ∀ h : i < l.length, l[i] = t := fun h => ht.symm
    rw [List.drop_eq_getElem_cons hlt, ← ht, showN, List.flatMap_cons] at hX
    have e1 : (i : Int) < l.length := by omega
    have e2 : IntKind.i64.wrap ((i : Int) + 1) = ((i + 1 : Nat) : Int) := by rw [w64] <;> omega
    have hnc : t.cells = iv t.kind :: (t.site.cells ++ [iv t.oracle]) := rfl
    have q1 := Si.len okt
    have q3 := Si.strip (s := t.site)
    have qu := n13u (s := t.site)
    have qu' := fun n => Si.under (s := t.site) n
    have qo := Si.one (s := t.site)
    have pc := n13c okt
    have pd := n13d okt
    have pf := n13f okt
    have pg := n13g okt
    have ph := n13h okt
    have hN := Name_eq t.site okt []
    have hw := fun K => word_eq t.kind K
    have hd := digits_eq [] t.oracle o1 o2
    have hll := lineN_len t
    have lw := wordN_len t.kind
    have ln := nameN_len t.site
    have lt := text_length t.oracle
    have hnm : ∀ b : Bool, t.site.name.2 = b → nameN t.site = if b = true then t.site.name.1 else [63] := fun b hb => by unfold nameN; rw [hb]
    have j2 := gjoin_eq [wordN t.kind, nameN t.site] (by simp) (by intro w hw; simp at hw; rcases hw with rfl | rfl <;> omega) []
    have j3 := gjoin_eq [wordN t.kind, nameN t.site, text t.oracle] (by simp) (by intro w hw; simp at hw; rcases hw with rfl | rfl | rfl <;> omega) []
    simp [tx, Go.Lib.join_cons, Go.Lib.joinTail] at j2 j3
    rw [l_gate_Show_0, M_loop, ← l_gate_Show_0]
    have fin : ∀ (line : List UInt8) (φ' : Fr) (x : Option (List V)), line = lineN t → Fr.get φ' 3 = .bptr 0 → Fr.get φ' 9 = .sl 13 (l.map No.cells) → Fr.get φ' 10 = iv l.length → Fr.get φ' 11 = iv (i + 1 : Nat) →
        M (eval tbl noExt) [.code l_gate_Show_0, .blk 0, .code r_gate_Show_0, .fin [.t 2] 0] φ' (some [.bld bT bE (acc ++ line)] :: (R ++ [x])) = some (.str X, []) := by
      rintro line φ' x rfl p3 p9 p10 p11
      exact ih (i + 1) (acc ++ lineN t) φ' _ (by omega) (by rw [← hX]; simp [showN]) (by simp; omega) p3 p9 p10 p11
    have c2 : (wordN t.kind).length + ((nameN t.site).length + 1) + 1 < 4611686018427387904 := by omega
    have c3 : (wordN t.kind).length + ((nameN t.site).length + ((text t.oracle).length + 1) + 1) + 1 < 4611686018427387904 := by omega
    have hcap : 2 * (2 + 1) * 16 ≤ 281474976710656 := by omega
    by_cases k5 : t.kind = 5
    · have hl5 : lineN t = wordN 5 ++ 32 :: (nameN t.site ++ [10]) := by unfold lineN; rw [if_pos (.inl k5), k5]; simp
      have hWS := fun R => WriteString_eq R acc (wordN 5 ++ 32 :: (nameN t.site ++ [10])) (by omega) (by rw [← hl5]; omega)
      rw [k5] at hw j2 j3 c2 c3
      cases hb : t.site.name.2 with
      | true =>
        have hnm := hnm true hb
        simp only [if_true] at hnm
        rw [hb, ← hnm] at hN
        simp [b_gate_Show_0, h3, h9, h10, h11, hlt, hg, e1, e2, hnc, q1, q3, qu, qu', qo, pc, pd, pf, pg, ph, hN, hw, hd, k5, j2, hWS, c2]
        refine fin _ _ _ (by rw [hl5]) ?_ ?_ ?_ ?_ <;> simp [h3, h9, h10]
      | false =>
        have hnm := hnm false hb
        simp only [Bool.false_eq_true, if_false] at hnm
        rw [hb] at hN
        have hw0 : ∀ K, eval tbl noExt n_gate_word [iv 0] K = some (.str (nameN t.site), K) := fun K => by rw [hnm]; exact word_eq 0 K
        simp [b_gate_Show_0, h3, h9, h10, h11, hlt, hg, e1, e2, hnc, q1, q3, qu, qu', qo, pc, pd, pf, pg, ph, hN, hw, hw0, hd, k5, j2, hWS, c2]
        refine fin _ _ _ (by rw [hl5]) ?_ ?_ ?_ ?_ <;> simp [h3, h9, h10]
    · by_cases k6 : t.kind = 6
      · have hl6 : lineN t = wordN 6 ++ 32 :: (nameN t.site ++ [10]) := by unfold lineN; rw [if_pos (.inr k6), k6]; simp
        have hWS := fun R => WriteString_eq R acc (wordN 6 ++ 32 :: (nameN t.site ++ [10])) (by omega) (by rw [← hl6]; omega)
        rw [k6] at hw j2 j3 c2 c3
        cases hb : t.site.name.2 with
        | true =>
          have hnm := hnm true hb
          simp only [if_true] at hnm
          rw [hb, ← hnm] at hN
          simp [b_gate_Show_0, h3, h9, h10, h11, hlt, hg, e1, e2, hnc, q1, q3, qu, qu', qo, pc, pd, pf, pg, ph, hN, hw, hd, k6, j2, hWS, c2]
          refine fin _ _ _ (by rw [hl6]) ?_ ?_ ?_ ?_ <;> simp [h3, h9, h10]
        | false =>
          have hnm := hnm false hb
          simp only [Bool.false_eq_true, if_false] at hnm
          rw [hb] at hN
          have hw0 : ∀ K, eval tbl noExt n_gate_word [iv 0] K = some (.str (nameN t.site), K) := fun K => by rw [hnm]; exact word_eq 0 K
          simp [b_gate_Show_0, h3, h9, h10, h11, hlt, hg, e1, e2, hnc, q1, q3, qu, qu', qo, pc, pd, pf, pg, ph, hN, hw, hw0, hd, k6, j2, hWS, c2]
          refine fin _ _ _ (by rw [hl6]) ?_ ?_ ?_ ?_ <;> simp [h3, h9, h10]
      · have hln : lineN t = wordN t.kind ++ 32 :: (nameN t.site ++ 32 :: (text t.oracle ++ [10])) := by unfold lineN; rw [if_neg (by omega)]; simp
        have hWS := fun R => WriteString_eq R acc (wordN t.kind ++ 32 :: (nameN t.site ++ 32 :: (text t.oracle ++ [10]))) (by omega) (by rw [← hln]; omega)
        cases hb : t.site.name.2 with
        | true =>
          have hnm := hnm true hb
          simp only [if_true] at hnm
          rw [hb, ← hnm] at hN
          simp [b_gate_Show_0, h3, h9, h10, h11, hlt, hg, e1, e2, hnc, q1, q3, qu, qu', qo, pc, pd, pf, pg, ph, hN, hw, hd, k5, k6, j3, hWS, c3, hcap]
          refine fin _ _ _ (by rw [hln]) ?_ ?_ ?_ ?_ <;> simp [h3, h9, h10]
        | false =>
          have hnm := hnm false hb
          simp only [Bool.false_eq_true, if_false] at hnm
          rw [hb] at hN
          have hw0 : ∀ K, eval tbl noExt n_gate_word [iv 0] K = some (.str (nameN t.site), K) := fun K => by rw [hnm]; exact word_eq 0 K
          simp [b_gate_Show_0, h3, h9, h10, h11, hlt, hg, e1, e2, hnc, q1, q3, qu, qu', qo, pc, pd, pf, pg, ph, hN, hw, hw0, hd, k5, k6, j3, hWS, c3, hcap]
          refine fin _ _ _ (by rw [hln]) ?_ ?_ ?_ ?_ <;> simp [h3, h9, h10]

theorem Show_eq (l : List No) (hl : l.length ≤ 40) (hok : ∀ x ∈ l, x.fit) : eval tbl noExt n_gate_Show [.sl 13 (l.map No.cells)] [] = some (.str (showN l), []) := by
  rw [eval_M rfl rfl t_gate_Show rfl]
  simp [c_gate_Show]
  refine show_loop l hl hok (showN l) l.length 0 [] _ [] (by omega) (by simp) (by simp) ?_ ?_ ?_ ?_ <;> simp

end Go.AM.Spec

namespace Go.AM.Spec
set_option linter.unusedVariables false
set_option linter.unusedSimpArgs false
set_option maxHeartbeats 4000000
set_option maxRecDepth 10000

theorem refShow_loop (l : List No) (hl : l.length ≤ 40) (hok : ∀ x ∈ l, x.fit) (W : List (List V)) (hWl : W.length = 6) (hW : ∀ k : Int, 1 ≤ k → k ≤ 6 → W[(k - 1).toNat]? = some [.str (wordN k)]) (X : List UInt8) :
    ∀ (r i : Nat) (acc : List UInt8) (φ : Fr) (K : Heap), i + r = l.length → acc ++ showN (l.drop i) = X → acc.length ≤ 1200 * i → Fr.get φ 0 = .sl 13 (l.map No.cells) → Fr.get φ 3 = .own 1 W → Fr.get φ 4 = .str acc → Fr.get φ 5 = iv i →
      M (eval tbl noExt) [.code l_flotsamref45_Show_0, .blk 0, .code r_flotsamref45_Show_0, .fin [.t 2] 0] φ K = some (.str X, []) := by
  intro r
  induction r with
  | zero =>
    intro i acc φ K hi hX ha h0 h3 h4 h5
    have hlt : ¬ (i : Int) < l.length := by omega
    rw [List.drop_eq_nil_of_le (by omega)] at hX
    simp [showN] at hX
    subst hX
    rw [l_flotsamref45_Show_0, M_loop]
    simp [b_flotsamref45_Show_0, r_flotsamref45_Show_0, h0, h3, h4, h5, hlt]
  | succ r ih =>
    intro i acc φ K hi hX ha h0 h3 h4 h5
    have hlt : i < l.length := by omega
    obtain ⟨t, ht⟩ : ∃ t, t = l[i] := ⟨_, rfl⟩
    obtain ⟨okt, o1, o2⟩ := hok t (by rw [ht]; exact List.getElem_mem _)
    have hg : ∀ h : i < l.length, l[i] = t := fun h => ht.symm
    rw [List.drop_eq_getElem_cons hlt, ← ht, showN, List.flatMap_cons] at hX
    have e1 : (i : Int) < l.length := by omega
    have e2 : IntKind.i64.wrap ((i : Int) + 1) = ((i + 1 : Nat) : Int) := by rw [w64] <;> omega
    have hnc : t.cells = iv t.kind :: (t.site.cells ++ [iv t.oracle]) := rfl
    have q1 := Si.len okt
    have q3 := Si.strip (s := t.site)
    have qu := n13u (s := t.site)
    have qu' := fun n => Si.under (s := t.site) n
    have qo := Si.one (s := t.site)
    have pc := n13c okt
    have pd := n13d okt
    have pf := n13f okt
    have pg := n13g okt
    have ph := n13h okt
    have hN := refNameS_eq t.site okt []
    have hd := refDigits_eq t.oracle.natAbs t.oracle [] (Nat.le_refl _) o1 o2
    have hll := lineN_len t
    have lw := wordN_len t.kind
    have ln := nameN_len t.site
    have lt := text_length t.oracle
    have hnm : ∀ b : Bool, t.site.name.2 = b → nameN t.site = if b = true then t.site.name.1 else [63] := fun b hb => by unfold nameN; rw [hb]
    have fin : ∀ (line : List UInt8) (φ' : Fr) (x : Option (List V)), line = acc ++ lineN t → Fr.get φ' 0 = .sl 13 (l.map No.cells) → Fr.get φ' 3 = .own 1 W → Fr.get φ' 4 = .str line → Fr.get φ' 5 = iv (i + 1 : Nat) →
        M (eval tbl noExt) [.code l_flotsamref45_Show_0, .blk 0, .code r_flotsamref45_Show_0, .fin [.t 2] 0] φ' (K ++ [x]) = some (.str X, []) := by
      rintro line φ' x rfl p0 p3 p4 p5
      exact ih (i + 1) (acc ++ lineN t) φ' _ (by omega) (by rw [← hX]; simp [showN]) (by simp; omega) p0 p3 p4 p5
    rw [l_flotsamref45_Show_0, M_loop, ← l_flotsamref45_Show_0]
    by_cases k5 : t.kind = 5
    · have hl5 : lineN t = wordN 5 ++ 32 :: (nameN t.site ++ [10]) := by unfold lineN; rw [if_pos (.inl k5), k5]; simp
      have w4 : W[4]? = some [.str (wordN 5)] := hW 5 (by omega) (by omega)
      have w4' : ∀ h : 4 < W.length, W[4] = [.str (wordN 5)] := fun h => by rw [List.getElem?_eq_getElem h] at w4; exact Option.some.inj w4
      have e3 : IntKind.i64.wrap 4 = 4 := by rw [w64] <;> omega
      rw [k5] at lw
      cases hb : t.site.name.2 with
      | true =>
        have hnm := hnm true hb
        simp only [if_true] at hnm
        rw [hb, ← hnm] at hN
        simp [b_flotsamref45_Show_0, h0, h3, h4, h5, hlt, hg, e1, e2, hnc, q1, q3, qu, qu', qo, pc, pd, pf, pg, ph, hN, hd, hWl, k5, w4, w4', e3]
        iterate 8 (try (rw [if_pos (by omega)]; simp [b_flotsamref45_Show_0, h0, h3, h4, h5, hlt, hg, e1, e2, hnc, q1, q3, qu, qu', qo, pc, pd, pf, pg, ph, hN, hd, hWl, k5, w4, w4', e3]))
        refine fin _ _ _ (by (rw [hl5]) <;> simp) ?_ ?_ ?_ ?_ <;> simp [h0, h3, h4, h5]
      | false =>
        have hnm := hnm false hb
        simp only [Bool.false_eq_true, if_false] at hnm
        rw [hb] at hN
        simp [b_flotsamref45_Show_0, h0, h3, h4, h5, hlt, hg, e1, e2, hnc, q1, q3, qu, qu', qo, pc, pd, pf, pg, ph, hN, hd, hWl, k5, w4, w4', e3]
        iterate 8 (try (rw [if_pos (by omega)]; simp [b_flotsamref45_Show_0, h0, h3, h4, h5, hlt, hg, e1, e2, hnc, q1, q3, qu, qu', qo, pc, pd, pf, pg, ph, hN, hd, hWl, k5, w4, w4', e3]))
        refine fin _ _ _ (by (rw [hl5, hnm]) <;> simp) ?_ ?_ ?_ ?_ <;> simp [h0, h3, h4, h5]
    · by_cases k6 : t.kind = 6
      · have hl6 : lineN t = wordN 6 ++ 32 :: (nameN t.site ++ [10]) := by unfold lineN; rw [if_pos (.inr k6), k6]; simp
        have w4 : W[5]? = some [.str (wordN 6)] := hW 6 (by omega) (by omega)
        have w4' : ∀ h : 5 < W.length, W[5] = [.str (wordN 6)] := fun h => by rw [List.getElem?_eq_getElem h] at w4; exact Option.some.inj w4
        have e3 : IntKind.i64.wrap 5 = 5 := by rw [w64] <;> omega
        rw [k6] at lw
        cases hb : t.site.name.2 with
        | true =>
          have hnm := hnm true hb
          simp only [if_true] at hnm
          rw [hb, ← hnm] at hN
          simp [b_flotsamref45_Show_0, h0, h3, h4, h5, hlt, hg, e1, e2, hnc, q1, q3, qu, qu', qo, pc, pd, pf, pg, ph, hN, hd, hWl, k6, w4, w4', e3]
          iterate 8 (try (rw [if_pos (by omega)]; simp [b_flotsamref45_Show_0, h0, h3, h4, h5, hlt, hg, e1, e2, hnc, q1, q3, qu, qu', qo, pc, pd, pf, pg, ph, hN, hd, hWl, k6, w4, w4', e3]))
          refine fin _ _ _ (by (rw [hl6]) <;> simp) ?_ ?_ ?_ ?_ <;> simp [h0, h3, h4, h5]
        | false =>
          have hnm := hnm false hb
          simp only [Bool.false_eq_true, if_false] at hnm
          rw [hb] at hN
          simp [b_flotsamref45_Show_0, h0, h3, h4, h5, hlt, hg, e1, e2, hnc, q1, q3, qu, qu', qo, pc, pd, pf, pg, ph, hN, hd, hWl, k6, w4, w4', e3]
          iterate 8 (try (rw [if_pos (by omega)]; simp [b_flotsamref45_Show_0, h0, h3, h4, h5, hlt, hg, e1, e2, hnc, q1, q3, qu, qu', qo, pc, pd, pf, pg, ph, hN, hd, hWl, k6, w4, w4', e3]))
          refine fin _ _ _ (by (rw [hl6, hnm]) <;> simp) ?_ ?_ ?_ ?_ <;> simp [h0, h3, h4, h5]
      · have hln : lineN t = wordN t.kind ++ 32 :: (nameN t.site ++ 32 :: (text t.oracle ++ [10])) := by unfold lineN; rw [if_neg (by omega)]; simp
        by_cases k1 : 1 ≤ t.kind
        · by_cases k7 : t.kind ≤ 6
          · have w4 := hW t.kind k1 k7
            have en : (t.kind - 1).toNat = t.kind.toNat - 1 := by omega
            rw [en] at w4
            have hlW : t.kind.toNat - 1 < W.length := by omega
            have w4' : ∀ h : t.kind.toNat - 1 < W.length, W[t.kind.toNat - 1] = [.str (wordN t.kind)] := fun h => by rw [List.getElem?_eq_getElem h] at w4; exact Option.some.inj w4
            have e3 : IntKind.i64.wrap (t.kind - 1) = t.kind - 1 := by rw [w64] <;> omega
            have i1 : 0 ≤ t.kind - 1 := by omega
            have i2 : t.kind - 1 < 6 := by omega
            have i3 : t.kind.toNat - 1 < 6 := by omega
            cases hb : t.site.name.2 with
            | true =>
              have hnm := hnm true hb
              simp only [if_true] at hnm
              rw [hb, ← hnm] at hN
              simp [b_flotsamref45_Show_0, h0, h3, h4, h5, hlt, hg, e1, e2, hnc, q1, q3, qu, qu', qo, pc, pd, pf, pg, ph, hN, hd, hWl, k5, k6, k1, k7, w4, w4', e3, i1, i2, i3, hlW]
              iterate 8 (try (rw [if_pos (by omega)]; simp [b_flotsamref45_Show_0, h0, h3, h4, h5, hlt, hg, e1, e2, hnc, q1, q3, qu, qu', qo, pc, pd, pf, pg, ph, hN, hd, hWl, k5, k6, k1, k7, w4, w4', e3, i1, i2, i3, hlW]))
              refine fin _ _ _ (by (rw [hln]) <;> simp) ?_ ?_ ?_ ?_ <;> simp [h0, h3, h4, h5]
            | false =>
              have hnm := hnm false hb
              simp only [Bool.false_eq_true, if_false] at hnm
              rw [hb] at hN
              simp [b_flotsamref45_Show_0, h0, h3, h4, h5, hlt, hg, e1, e2, hnc, q1, q3, qu, qu', qo, pc, pd, pf, pg, ph, hN, hd, hWl, k5, k6, k1, k7, w4, w4', e3, i1, i2, i3, hlW]
              iterate 8 (try (rw [if_pos (by omega)]; simp [b_flotsamref45_Show_0, h0, h3, h4, h5, hlt, hg, e1, e2, hnc, q1, q3, qu, qu', qo, pc, pd, pf, pg, ph, hN, hd, hWl, k5, k6, k1, k7, w4, w4', e3, i1, i2, i3, hlW]))
              refine fin _ _ _ (by (rw [hln, hnm]) <;> simp) ?_ ?_ ?_ ?_ <;> simp [h0, h3, h4, h5]
          · have hw63 : wordN t.kind = [63] := by unfold wordN; repeat (rw [if_neg (by omega)])
            cases hb : t.site.name.2 with
            | true =>
              have hnm := hnm true hb
              simp only [if_true] at hnm
              rw [hb, ← hnm] at hN
              simp [b_flotsamref45_Show_0, h0, h3, h4, h5, hlt, hg, e1, e2, hnc, q1, q3, qu, qu', qo, pc, pd, pf, pg, ph, hN, hd, hWl, k5, k6, k1, k7]
              iterate 8 (try (rw [if_pos (by omega)]; simp [b_flotsamref45_Show_0, h0, h3, h4, h5, hlt, hg, e1, e2, hnc, q1, q3, qu, qu', qo, pc, pd, pf, pg, ph, hN, hd, hWl, k5, k6, k1, k7]))
              refine fin _ _ _ (by (rw [hln, hw63]) <;> simp) ?_ ?_ ?_ ?_ <;> simp [h0, h3, h4, h5]
            | false =>
              have hnm := hnm false hb
              simp only [Bool.false_eq_true, if_false] at hnm
              rw [hb] at hN
              simp [b_flotsamref45_Show_0, h0, h3, h4, h5, hlt, hg, e1, e2, hnc, q1, q3, qu, qu', qo, pc, pd, pf, pg, ph, hN, hd, hWl, k5, k6, k1, k7]
              iterate 8 (try (rw [if_pos (by omega)]; simp [b_flotsamref45_Show_0, h0, h3, h4, h5, hlt, hg, e1, e2, hnc, q1, q3, qu, qu', qo, pc, pd, pf, pg, ph, hN, hd, hWl, k5, k6, k1, k7]))
              refine fin _ _ _ (by (rw [hln, hw63, hnm]) <;> simp) ?_ ?_ ?_ ?_ <;> simp [h0, h3, h4, h5]
        · have hw63 : wordN t.kind = [63] := by unfold wordN; repeat (rw [if_neg (by omega)])
          cases hb : t.site.name.2 with
          | true =>
            have hnm := hnm true hb
            simp only [if_true] at hnm
            rw [hb, ← hnm] at hN
            simp [b_flotsamref45_Show_0, h0, h3, h4, h5, hlt, hg, e1, e2, hnc, q1, q3, qu, qu', qo, pc, pd, pf, pg, ph, hN, hd, hWl, k5, k6, k1]
            iterate 8 (try (rw [if_pos (by omega)]; simp [b_flotsamref45_Show_0, h0, h3, h4, h5, hlt, hg, e1, e2, hnc, q1, q3, qu, qu', qo, pc, pd, pf, pg, ph, hN, hd, hWl, k5, k6, k1]))
            refine fin _ _ _ (by (rw [hln, hw63]) <;> simp) ?_ ?_ ?_ ?_ <;> simp [h0, h3, h4, h5]
          | false =>
            have hnm := hnm false hb
            simp only [Bool.false_eq_true, if_false] at hnm
            rw [hb] at hN
            simp [b_flotsamref45_Show_0, h0, h3, h4, h5, hlt, hg, e1, e2, hnc, q1, q3, qu, qu', qo, pc, pd, pf, pg, ph, hN, hd, hWl, k5, k6, k1]
            iterate 8 (try (rw [if_pos (by omega)]; simp [b_flotsamref45_Show_0, h0, h3, h4, h5, hlt, hg, e1, e2, hnc, q1, q3, qu, qu', qo, pc, pd, pf, pg, ph, hN, hd, hWl, k5, k6, k1]))
            refine fin _ _ _ (by (rw [hln, hw63, hnm]) <;> simp) ?_ ?_ ?_ ?_ <;> simp [h0, h3, h4, h5]

theorem refShow_eq (l : List No) (hl : l.length ≤ 40) (hok : ∀ x ∈ l, x.fit) : eval tbl noExt n_flotsamref45_Show [.sl 13 (l.map No.cells)] [] = some (.str (showN l), []) := by
  rw [eval_M rfl rfl t_flotsamref45_Show rfl]
  simp [c_flotsamref45_Show]
  refine refShow_loop l hl hok [[.str [108, 111, 115, 116]], [.str [119, 111, 110]], [.str [100, 97, 114, 107]], [.str [99, 108, 101, 97, 114]], [.str [103, 111, 110, 101]], [.str [102, 114, 101, 115, 104]]] rfl ?_ (showN l) l.length 0 [] _ [] (by omega) (by simp) (by simp) ?_ ?_ ?_ ?_
  · intro k h1 h6
    have : k = 1 ∨ k = 2 ∨ k = 3 ∨ k = 4 ∨ k = 5 ∨ k = 6 := by omega
    rcases this with rfl | rfl | rfl | rfl | rfl | rfl <;> rfl
  all_goals simp

end Go.AM.Spec

namespace Go.AM.Spec
set_option linter.unusedVariables false
set_option linter.unusedSimpArgs false
set_option maxHeartbeats 4000000
set_option maxRecDepth 10000

theorem back_loop (K : Heap) (l : List No) (hl : l.length ≤ 4000) (hok : ∀ x ∈ l, x.site.ok) (call : CallF) (Q : Option (V × Heap) → Prop) (kk : List Item) (hexit : ∀ φ', Fr.get φ' 3 = .own 13 (l.map No.cells) → Q (M call kk φ' K)) :
    ∀ (r i : Nat) (φ : Fr), i + r = l.length → Fr.get φ 0 = .sl 13 (l.map No.cells) → Fr.get φ 3 = .own 13 ((l.take i).map No.cells) → Fr.get φ 4 = iv i → Q (M call (.code l_flotsamlaw45_back_0 :: .blk 0 :: kk) φ K) := by
  intro r
  induction r with
  | zero =>
    intro i φ hi h0 h3 h4
    have hlt : ¬ (i : Int) < l.length := by omega
    rw [List.take_of_length_le (by omega)] at h3
    rw [l_flotsamlaw45_back_0, M_loop]
    simp [b_flotsamlaw45_back_0, h0, h3, h4, hlt]
    exact hexit _ (by simp [h3])
  | succ r ih =>
    intro i φ hi h0 h3 h4
    have hlt : i < l.length := by omega
    obtain ⟨t, ht⟩ : ∃ t, t = l[i] := ⟨_, rfl⟩
    have okt := hok t (by rw [ht]; exact List.getElem_mem _)
    have hg : ∀ h : i < l.length, l[i] = t := fun h => ht.symm
    have e1 : (i : Int) < l.length := by omega
    have e2 : IntKind.i64.wrap ((i : Int) + 1) = ((i + 1 : Nat) : Int) := by rw [w64] <;> omega
    have hnc : t.cells = iv t.kind :: (t.site.cells ++ [iv t.oracle]) := rfl
    have q1 := Si.len okt
    have q3 := Si.strip (s := t.site)
    have pc := n13c okt
    have pd := n13d okt
    have pe := n13e (s := t.site)
    obtain ⟨rows, hrows⟩ : ∃ rows, rows = (l.take i).map No.cells := ⟨_, rfl⟩
    have hlen : rows.length ≤ 4000 := by rw [hrows]; simp; omega
    rw [← hrows] at h3
    have hcap : 2 * (rows.length + 1) * 104 ≤ 281474976710656 := by omega
    have hnext : rows ++ [iv t.kind :: (t.site.cells ++ [iv t.oracle])] = (l.take (i + 1)).map No.cells := by
      rw [hrows, List.take_add_one, List.getElem?_eq_getElem hlt, ← ht]; simp [No.cells]
    clear hrows
    rw [l_flotsamlaw45_back_0, M_loop, ← l_flotsamlaw45_back_0]
    simp [b_flotsamlaw45_back_0, h0, h3, h4, hlt, hg, e1, e2, hnc, q1, q3, pc, pd, pe, hcap]
    refine ih (i + 1) _ (by omega) ?_ (by rw [← hnext]; simp) ?_ <;> simp [h0]

theorem back_eq (l : List No) (hl : l.length ≤ 4000) (hok : ∀ x ∈ l, x.site.ok) : eval tbl noExt n_flotsamlaw45_back [.sl 13 (l.map No.cells)] [] = some (.own 13 (l.map No.cells), []) := by
  rw [eval_M rfl rfl t_flotsamlaw45_back rfl]
  have hlp := back_loop [] l hl hok (eval tbl noExt) (fun r => r = some (.own 13 (l.map No.cells), [])) [.code r_flotsamlaw45_back_0, .fin [.t 2] 0] (fun φ' p => by simp [r_flotsamlaw45_back_0, p])
  simp [c_flotsamlaw45_back]
  refine hlp l.length 0 _ (by omega) ?_ ?_ ?_ <;> simp

theorem notesF_loop (K : Heap) (l : List No) (hl : l.length ≤ 4000) (hok : ∀ x ∈ l, x.site.ok) (call : CallF) (Q : Option (V × Heap) → Prop) (kk : List Item) (hexit : ∀ φ', Fr.get φ' 3 = .own 13 (l.map No.cells) → Q (M call kk φ' K)) :
    ∀ (r i : Nat) (φ : Fr), i + r = l.length → Fr.get φ 0 = .sl 13 (l.map No.cells) → Fr.get φ 3 = .own 13 ((l.take i).map No.cells) → Fr.get φ 4 = iv i → Q (M call (.code l_flotsamlaw45_notes_0 :: .blk 0 :: kk) φ K) := by
  intro r
  induction r with
  | zero =>
    intro i φ hi h0 h3 h4
    have hlt : ¬ (i : Int) < l.length := by omega
    rw [List.take_of_length_le (by omega)] at h3
    rw [l_flotsamlaw45_notes_0, M_loop]
    simp [b_flotsamlaw45_notes_0, h0, h3, h4, hlt]
    exact hexit _ (by simp [h3])
  | succ r ih =>
    intro i φ hi h0 h3 h4
    have hlt : i < l.length := by omega
    obtain ⟨t, ht⟩ : ∃ t, t = l[i] := ⟨_, rfl⟩
    have okt := hok t (by rw [ht]; exact List.getElem_mem _)
    have hg : ∀ h : i < l.length, l[i] = t := fun h => ht.symm
    have e1 : (i : Int) < l.length := by omega
    have e2 : IntKind.i64.wrap ((i : Int) + 1) = ((i + 1 : Nat) : Int) := by rw [w64] <;> omega
    have hnc : t.cells = iv t.kind :: (t.site.cells ++ [iv t.oracle]) := rfl
    have q1 := Si.len okt
    have q3 := Si.strip (s := t.site)
    have pc := n13c okt
    have pd := n13d okt
    have pe := n13e (s := t.site)
    obtain ⟨rows, hrows⟩ : ∃ rows, rows = (l.take i).map No.cells := ⟨_, rfl⟩
    have hlen : rows.length ≤ 4000 := by rw [hrows]; simp; omega
    rw [← hrows] at h3
    have hcap : 2 * (rows.length + 1) * 104 ≤ 281474976710656 := by omega
    have hnext : rows ++ [iv t.kind :: (t.site.cells ++ [iv t.oracle])] = (l.take (i + 1)).map No.cells := by
      rw [hrows, List.take_add_one, List.getElem?_eq_getElem hlt, ← ht]; simp [No.cells]
    clear hrows
    rw [l_flotsamlaw45_notes_0, M_loop, ← l_flotsamlaw45_notes_0]
    simp [b_flotsamlaw45_notes_0, h0, h3, h4, hlt, hg, e1, e2, hnc, q1, q3, pc, pd, pe, hcap]
    refine ih (i + 1) _ (by omega) ?_ (by rw [← hnext]; simp) ?_ <;> simp [h0]

theorem notesF_eq (l : List No) (hl : l.length ≤ 4000) (hok : ∀ x ∈ l, x.site.ok) : eval tbl noExt n_flotsamlaw45_notes [.sl 13 (l.map No.cells)] [] = some (.own 13 (l.map No.cells), []) := by
  rw [eval_M rfl rfl t_flotsamlaw45_notes rfl]
  have hlp := notesF_loop [] l hl hok (eval tbl noExt) (fun r => r = some (.own 13 (l.map No.cells), [])) [.code r_flotsamlaw45_notes_0, .fin [.t 2] 0] (fun φ' p => by simp [r_flotsamlaw45_notes_0, p])
  simp [c_flotsamlaw45_notes]
  refine hlp l.length 0 _ (by omega) ?_ ?_ ?_ <;> simp

theorem No.eqc {n : No} (ok : n.site.ok) : eqCells [.int .i64, .int .i64, .int .i64, .int .i64, .int .i64, .int .i64, .int .i64, .int .i64, .int .i64, .int .i64, .int .i64, .int .i64, .int .i64] (iv n.kind :: (n.site.cells ++ [iv n.oracle])) (iv n.kind :: (n.site.cells ++ [iv n.oracle])) = some true := by
  have h8 : n.site.way.length = 8 := ok
  have := eqCells_ints 13 .i64 (n.kind :: (n.site.ints ++ [n.oracle])) (n.kind :: (n.site.ints ++ [n.oracle])) (by simp [Si.ints, h8]) (by simp [Si.ints, h8])
  simp only [List.map_cons, List.map_append, List.map_nil, ← Si.cells_ints, decide_true] at this
  exact this

theorem same_loop (K : Heap) (l : List No) (hl : l.length ≤ 4000) (hok : ∀ x ∈ l, x.site.ok) (call : CallF) (Q : Option (V × Heap) → Prop) (kk : List Item) (hexit : ∀ φ', Q (M call kk φ' K)) :
    ∀ (r i : Nat) (φ : Fr), i + r = l.length → Fr.get φ 0 = .sl 13 (l.map No.cells) → Fr.get φ 1 = .sl 13 (l.map No.cells) → Fr.get φ 5 = iv i → Q (M call (.code l_flotsamref45_Same_0 :: .blk 0 :: kk) φ K) := by
  intro r
  induction r with
  | zero =>
    intro i φ hi h0 h1 h5
    have hlt : ¬ (i : Int) < l.length := by omega
    rw [l_flotsamref45_Same_0, M_loop]
    simp [b_flotsamref45_Same_0, h0, h1, h5, hlt]
    exact hexit _
  | succ r ih =>
    intro i φ hi h0 h1 h5
    have hlt : i < l.length := by omega
    obtain ⟨t, ht⟩ : ∃ t, t = l[i] := ⟨_, rfl⟩
    have okt := hok t (by rw [ht]; exact List.getElem_mem _)
    have hg : ∀ h : i < l.length, l[i] = t := fun h => ht.symm
    have e1 : (i : Int) < l.length := by omega
    have e2 : IntKind.i64.wrap ((i : Int) + 1) = ((i + 1 : Nat) : Int) := by rw [w64] <;> omega
    have hnc : t.cells = iv t.kind :: (t.site.cells ++ [iv t.oracle]) := rfl
    have q1 := Si.len okt
    have q3 := Si.strip (s := t.site)
    have pc := n13c okt
    have he := No.eqc okt
    rw [l_flotsamref45_Same_0, M_loop, ← l_flotsamref45_Same_0]
    simp [b_flotsamref45_Same_0, h0, h1, h5, hlt, hg, e1, e2, hnc, q1, q3, pc, he]
    refine ih (i + 1) _ (by omega) ?_ ?_ ?_ <;> simp [h0, h1]

theorem Same_eq (l : List No) (hl : l.length ≤ 4000) (hok : ∀ x ∈ l, x.site.ok) : eval tbl noExt n_flotsamref45_Same [.sl 13 (l.map No.cells), .sl 13 (l.map No.cells)] [] = some (.bool true, []) := by
  rw [eval_M rfl rfl t_flotsamref45_Same rfl]
  have hlp := same_loop [] l hl hok (eval tbl noExt) (fun r => r = some (.bool true, [])) [.code r_flotsamref45_Same_0, .fin [.t 4] 0] (fun φ' => by simp [r_flotsamref45_Same_0])
  simp [c_flotsamref45_Same]
  refine hlp l.length 0 _ (by omega) ?_ ?_ ?_ <;> simp

theorem GateTells_eq (a : Mx) (fa : a.fit) (b : Mx) (fb : b.fit) (l : List No) (fl : ∀ x ∈ l, x.fit) : ∃ H', eval tbl noExt n_flotsamlaw45_GateTells [.agg a.cells, .agg b.cells, .sl 13 (l.map No.cells)] [] = some (.bool true, H') := by
  refine ⟨[], ?_⟩
  have hk := knows45
  have hFa := Few_eq a []
  have hFb := Few_eq b []
  have al : a.cells.length = 4 := rfl
  have at4 : a.cells.take 4 = a.cells := rfl
  have as4 : a.cells.map V.strip = a.cells := rfl
  have au : ∀ n, V.underAll n a.cells = true := fun n => rfl
  have bl : b.cells.length = 4 := rfl
  have bt4 : b.cells.take 4 = b.cells := rfl
  have bs : b.cells.map V.strip = b.cells := rfl
  have bu : ∀ n, V.underAll n b.cells = true := fun n => rfl
  rw [eval_M rfl rfl t_flotsamlaw45_GateTells rfl]
  cases hba : a.fewB with
  | false =>
    rw [hba] at hFa
    simp [c_flotsamlaw45_GateTells, al, at4, as4, au, bl, bt4, bs, bu, hFa, hk]
  | true =>
    rw [hba] at hFa
    cases hbb : b.fewB with
    | false =>
      rw [hbb] at hFb
      simp [c_flotsamlaw45_GateTells, al, at4, as4, au, bl, bt4, bs, bu, hFa, hFb, hk]
    | true =>
      rw [hbb] at hFb
      by_cases hll : 40 < l.length
      · have hll' : (40 : Int) < l.length := by omega
        simp [c_flotsamlaw45_GateTells, al, at4, as4, au, bl, bt4, bs, bu, hFa, hFb, hk, hll, hll']
      · have hll' : ¬ (40 : Int) < l.length := by omega
        have wa := Mx.few_of hba
        have wb := Mx.few_of hbb
        have oka : ∀ s ∈ a.sites, s.ok := fun s hs => (fa.2.1 s hs).1
        have okb : ∀ s ∈ b.sites, s.ok := fun s hs => (fb.2.1 s hs).1
        have h1 := Compare_eq a b wa wb oka okb
        have h2 := refCompare_eq a b wa wb oka okb
        have h3 := Opens_eq a b wa wb oka okb
        have h4 := refOpens_eq a b wa wb oka okb
        have h5 := Show_eq l (by omega) fl
        have h6 := refShow_eq l (by omega) fl
        have h7 := notesF_eq l (by omega) (fun x hx => (fl x hx).1)
        generalize hL : l.map No.cells = L at h5 h6 h7
        have hLl : L.length = l.length := by rw [← hL]; simp
        cases hm : mayAB a b with
        | false =>
          rw [hm] at h1 h2
          have b0 := back_eq [] (by simp) (by simp)
          have s0 := Same_eq [] (by simp) (by simp)
          simp at h1 h2 b0 s0
          simp [c_flotsamlaw45_GateTells, al, at4, as4, au, bl, bt4, bs, bu, hFa, hFb, hk, hll, hll', hL, hLl, h1, h2, h3, h4, h5, h6, h7, b0, s0]
        | true =>
          rw [hm] at h1 h2
          have b0 := back_eq (notesAB a b) (notes_len wa wb) (notes_ok oka okb)
          have s0 := Same_eq (notesAB a b) (notes_len wa wb) (notes_ok oka okb)
          simp at h1 h2
          generalize (notesAB a b).map No.cells = A at h1 h2 b0 s0
          simp [c_flotsamlaw45_GateTells, al, at4, as4, au, bl, bt4, bs, bu, hFa, hFb, hk, hll, hll', hL, hLl, h1, h2, h3, h4, h5, h6, h7, b0, s0]

end Go.AM.Spec

namespace Go.AM
set_option linter.unusedVariables false
set_option linter.unusedSimpArgs false
namespace Spec
open Go.ChangeShapes Go.WideShapes Go.Deep

section
variable {P : Program}

theorem note_of {t tI tS tA : TypeId} {fs gs : Array Field} {vs : List V} (h : Ty P t vs) (hu : P.underlying t = some (.struct fs)) (hf : fs.toList.map (·.type) = [tI, tS, tI]) (hI : P.underlying tI = some (.int .i64))
    (hS : P.underlying tS = some (.struct gs)) (hg : gs.toList.map (·.type) = [tI, tI, tA, tI]) (hA : P.underlying tA = some (.array 8 tI)) : ∃ n : No, vs = n.cells ∧ n.fit := by
  obtain ⟨parts, rfl, hl⟩ := Ty_struct_of h hu
  rw [hf] at hl
  obtain ⟨p, q, r, rfl, h0, h1, h2⟩ := TyL_3 hl
  obtain ⟨a, rfl, w0⟩ := Ty_int_of h0 hI
  obtain ⟨d, rfl, w2⟩ := Ty_int_of h2 hI
  obtain ⟨s, rfl, ok, _⟩ := site_of h1 hS hg hI hA
  refine ⟨⟨a, s, d⟩, by simp [No.cells], ok, ?_⟩
  simp [Fit, Lit.wf, IntKind.min, IntKind.max, IntKind.signed, IntKind.bits] at w2
  omega

/-- An argument that is a list of notes. -/
theorem notes_of {H : Type} {enc : TypeId × Value → H} {w : World} {ts : List TypeId} (hts : ∀ t ∈ ts, plainAt P ts t = true) {t e tI tS tA : TypeId} {fs gs : Array Field} (ht : t ∈ ts) (hu : P.underlying t = some (.slice e)) (he : P.underlying e = some (.struct fs)) (hf : fs.toList.map (·.type) = [tI, tS, tI])
    (hI : P.underlying tI = some (.int .i64)) (hS : P.underlying tS = some (.struct gs)) (hg : gs.toList.map (·.type) = [tI, tI, tA, tI]) (hA : P.underlying tA = some (.array 8 tI)) (hc : P.cellsOf e = 13)
    {r : Reach} {b0 : Nat} {v : Value} {d : DataW H} {p : List MemPlace} (hv : Value.okWide P w r b0 t v) (h : DataW.Trod enc P w 0 (fun _ => true) true t v d p) :
    ∃ l : List No, (∀ x ∈ l, x.fit) ∧ R w (fun _ _ => False) [] (.sl 13 (l.map No.cells)) v := by
  obtain ⟨a, len, cap, rfl⟩ := okWide_slice hu hv
  obtain ⟨vs, hty, hpr⟩ := open_list hts ht hu (v := .slice a len cap) rfl h
  obtain ⟨rows, hr, _, hel⟩ := Ty_sl_of hty hu
  cases hr
  rw [hc] at hpr
  obtain ⟨l, rfl, h2⟩ := list_of No.cells No.fit (fun r hr => note_of (hel r hr) he hf hI hS hg hA)
  exact ⟨l, h2, .pr hpr⟩

end
end Spec
end Go.AM
