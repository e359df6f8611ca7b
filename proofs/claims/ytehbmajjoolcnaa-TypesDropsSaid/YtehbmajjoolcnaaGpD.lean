/-
  The parts of this proof that speak of the functions one by one.
-/
import Derived.Test.YtehbmajjoolcnaaGpC
import Derived.Test.YtehbmajjoolcnaaGpB
namespace Go.AM.Spec
set_option linter.unusedVariables false
set_option linter.unusedSimpArgs false
set_option maxHeartbeats 4000000
set_option maxRecDepth 10000
end Go.AM.Spec
namespace Go.AM.Spec
set_option linter.unusedVariables false
set_option linter.unusedSimpArgs false
set_option maxHeartbeats 4000000
set_option maxRecDepth 10000
def NZ (R : Mp) : Prop := ∀ x ∈ R, x.2 ≠ 0
end Go.AM.Spec
namespace Go.AM.Spec
set_option linter.unusedVariables false
set_option linter.unusedSimpArgs false
set_option maxHeartbeats 4000000
set_option maxRecDepth 10000
end Go.AM.Spec
namespace Go.AM.Spec
set_option linter.unusedVariables false
set_option linter.unusedSimpArgs false
set_option maxHeartbeats 4000000
set_option maxRecDepth 10000
theorem NZ.nil : NZ [] := fun x h => by simp at h
end Go.AM.Spec
namespace Go.AM.Spec
set_option linter.unusedVariables false
set_option linter.unusedSimpArgs false
set_option maxHeartbeats 4000000
set_option maxRecDepth 10000
theorem Fault_eq (a b c d : Int) : eval tbl noExt n_l15_Fault [.agg [.int .i64 a, .int .i64 b], .agg [.int .i64 c, .int .i64 d]] [] = some (.bool (decide (a = c) && decide (b = d)), []) := by
  rw [eval_M rfl rfl t_l15_Fault rfl]
  by_cases h1 : a = c
  · by_cases h2 : b = d
    · simp [c_l15_Fault, h1, h2]
    · simp [c_l15_Fault, h1, h2]
  · simp [c_l15_Fault, h1]
theorem Pg.chk_typed (p : Pg) : p.chk = p.typed := by
  unfold Pg.chk Pg.typed
  cases h : p.ok with
  | false => rfl
  | true => simp only [if_true]; exact Pg.chk_rk h
end Go.AM.Spec
namespace Go.AM.Spec
set_option linter.unusedVariables false
set_option linter.unusedSimpArgs false
set_option maxHeartbeats 4000000
set_option maxRecDepth 10000
theorem knows19 : eval tbl noExt n_flotsamlaw19_knows [] [] = some (.bool true, []) := (eval_iff _ _ _ _ _ _).2 ⟨400, by kernel_rfl⟩
end Go.AM.Spec
namespace Go.AM.Spec
set_option linter.unusedVariables false
set_option linter.unusedSimpArgs false
set_option maxHeartbeats 4000000
set_option maxRecDepth 10000
theorem frzL_id {f : Heap → V → Option (V × Heap)} {H : Heap} : ∀ {cs : List V}, (∀ v ∈ cs, f H v = some (v, H)) → frzL f H cs = some (cs, H)
  | [], _ => rfl
  | c :: cs, h => by simp only [frzL, h c (by simp), frzL_id (cs := cs) (fun v hv => h v (by simp [hv]))]
theorem frzV_cell (n : Nat) (H : Heap) (l : List Sm) : ∀ v ∈ (Sm.rows l).flatten, frzV (n + 1) H v = some (v, H) := by
  intro v hv
  rw [Sm.rows_eq, List.mem_flatten] at hv
  obtain ⟨r, hr, hv⟩ := hv
  obtain ⟨e, _, rfl⟩ := List.mem_map.1 hr
  cases e
  simp only [Sm.cells, List.mem_cons, List.not_mem_nil, or_false] at hv
  rcases hv with rfl | rfl | rfl | rfl | rfl | rfl | rfl <;> simp [frzV]
theorem rows_width (l : List Sm) : ∀ r ∈ Sm.rows l, r.length = 7 := by
  intro r hr
  rw [Sm.rows_eq] at hr
  obtain ⟨e, _, rfl⟩ := List.mem_map.1 hr
  cases e; rfl
theorem rows_length (l : List Sm) : (Sm.rows l).length = l.length := by rw [Sm.rows_eq]; simp
theorem flat_length (l : List Sm) : (Sm.rows l).flatten.length = l.length * 7 := by
  rw [Sm.rows_eq]
  induction l with
  | nil => rfl
  | cons x l ih => rw [List.map_cons, List.flatten_cons, List.length_append, ih, List.length_cons]; have := (Sm.strips x).1; omega
theorem chunk_rows (l : List Sm) : chunk 7 (Sm.rows l).flatten 0 l.length = Sm.rows l := by
  have := chunk_flatten (k := 7) (rows := Sm.rows l) [] (rows_width l)
  rw [rows_length] at this
  simpa using this
theorem frz_sl (H : Heap) (k : Nat) (r : List (List V)) : frzV deepest H (.sl k r) = some (.sl k r, H) := by
  have hd : deepest = 99999 + 1 := rfl
  rw [hd]; simp [frzV]
theorem frz_mg {H : Heap} {i : Nat} {l : List Sm} (h : H[i]? = some (some (Sm.rows l).flatten)) : frzV deepest H (.mg 7 i 0 l.length l.length) = some (.sl 7 (Sm.rows l), H.set i none) := by
  have hl := flat_length l
  have hd : deepest = 99998 + 1 + 1 := rfl
  rw [hd, frzV, h]
  simp only
  rw [if_pos (by omega), List.drop_zero, List.take_of_length_le (by omega), frzL_id (frzV_cell 99998 _ l)]
  simp only [chunk_rows]
theorem setMany_mid : ∀ (r' r pre post : List V), r'.length = r.length → setMany (pre ++ (r ++ post)) pre.length r' = pre ++ (r' ++ post)
  | [], [], pre, post, _ => by simp [setMany]
  | v :: r', c :: r, pre, post, h => by
    have ih := setMany_mid r' r (pre ++ [v]) post (by simpa using h)
    rw [setMany, List.set_append_right _ _ (Nat.le_refl _)]
    simpa using ih
  | [], _ :: _, _, _, h => by simp at h
  | _ :: _, [], _, _, h => by simp at h
theorem rows_put (A B : List Sm) (y x : Sm) : setMany (Sm.rows (A ++ y :: B)).flatten (A.length * 7) x.cells = (Sm.rows (A ++ x :: B)).flatten := by
  have h := setMany_mid x.cells y.cells (Sm.rows A).flatten (Sm.rows B).flatten (by rw [(Sm.strips x).1, (Sm.strips y).1])
  rw [flat_length] at h
  have e : ∀ z : Sm, (Sm.rows (A ++ z :: B)).flatten = (Sm.rows A).flatten ++ (z.cells ++ (Sm.rows B).flatten) := fun z => by
    rw [Sm.rows_append, List.flatten_append]; rfl
  rw [e, e, h]
theorem fine_eq (p : Pg) (h : p.Fine) : eval tbl noExt n_flotsamlaw19_fine [.agg p.cells] [] = some (.bool (decide (p.typed = (0, 0))), []) := by
  obtain ⟨H', hC⟩ := Check_eq p h
  rw [Pg.chk_typed] at hC
  have hF := Fault_eq p.typed.1 p.typed.2 0 0
  have hd : decide (p.typed = (0, 0)) = (decide (p.typed.1 = 0) && decide (p.typed.2 = 0)) := by
    generalize p.typed = f
    obtain ⟨a, b⟩ := f
    by_cases h1 : a = 0 <;> by_cases h2 : b = 0 <;> simp [h1, h2]
  rw [hd]
  generalize p.typed = f at hC hF ⊢
  rw [eval_M rfl rfl t_flotsamlaw19_fine rfl]
  simp only [Pg.cells] at hC ⊢
  simp [c_flotsamlaw19_fine, hC, hF]
theorem typed_fine (p : Pg) : p.typed = (0, 0) ↔ p.ok = true ∧ p.rkF = (0, 0) := by
  unfold Pg.typed
  cases h : p.ok with
  | false => simp
  | true => simp
theorem ok_main {p : Pg} (h : p.ok = true) {M : List Sm} (h1 : Sm.oks M 1 = true) (h2 : (Sm.flats M).length ≤ (Sm.flats p.main).length) : Pg.ok { p with main := M } = true := by
  simp only [Pg.ok, Bool.and_eq_true, decide_eq_true_eq] at h ⊢
  obtain ⟨a1, a2, a3, a4, a5, a6, a7⟩ := h
  refine ⟨a1, a2, ?_, a4, a5, h1, a7⟩
  have e : ∀ q : Pg, q.flats.length = (Sm.flats (q.procs.map (·.2)).flatten).length + (Sm.flats q.main).length + (Sm.flats q.recover).length := fun q => by
    simp [Pg.flats, Pg.parts, Sm.flats_append]; omega
  rw [e] at a3 ⊢
  simp only
  omega
theorem oks_append (a b : List Sm) (d : Nat) : Sm.oks (a ++ b) d = (Sm.oks a d && Sm.oks b d) := by
  rw [Sm.oks_all, Sm.oks_all, Sm.oks_all, List.all_append]
theorem fine_drop {p : Pg} {A B : List Sm} {x : Sm} (hm : p.main = A ++ x :: B) (hx : x.op ≠ 12) (h : p.typed = (0, 0)) : Pg.typed { p with main := A ++ B } = (0, 0) := by
  rw [typed_fine] at h ⊢
  obtain ⟨hok, hrk⟩ := h
  have hmok := (p.ok_parts hok).2.2.1
  rw [hm, oks_append, Sm.oks, Bool.and_eq_true, Bool.and_eq_true] at hmok
  refine ⟨ok_main hok (by rw [oks_append, hmok.1, hmok.2.2]; rfl) ?_, main_swap hrk fun pr no h0 => ?_⟩
  · rw [hm, Sm.flats_append, Sm.flats_append, List.length_append, List.length_append, Sm.flats, List.length_append]; omega
  · rw [hm] at h0
    exact drop_main hx pr no h0
theorem fine_swap {p : Pg} {A B : List Sm} {x y : Sm} (hm : p.main = A ++ y :: x :: B) (hx : x.op ≠ 12) (hy : y.op ≠ 12) (h : p.typed = (0, 0)) : Pg.typed { p with main := A ++ x :: y :: B } = (0, 0) := by
  rw [typed_fine] at h ⊢
  obtain ⟨hok, hrk⟩ := h
  have hmok := (p.ok_parts hok).2.2.1
  rw [hm, oks_append, Sm.oks, Sm.oks, Bool.and_eq_true, Bool.and_eq_true, Bool.and_eq_true] at hmok
  refine ⟨ok_main hok (by rw [oks_append, Sm.oks, Sm.oks, hmok.1, hmok.2.1, hmok.2.2.1, hmok.2.2.2]; rfl) ?_, main_swap hrk fun pr no h0 => ?_⟩
  · rw [hm, Sm.flats_append, Sm.flats_append]; simp only [Sm.flats, List.length_append]; omega
  · rw [hm] at h0
    exact swap_main hx hy pr no h0
theorem rows_plain2 (l : List Sm) : ((Sm.rows l).all fun r => r.all V.plain) = true := by
  rw [Sm.rows_eq, List.all_map, List.all_eq_true]
  intro x _
  cases x; simp [Sm.cells]
theorem flat_one (l : List Sm) : ((Sm.rows l).flatten.all V.one) = true := by
  rw [List.all_eq_true]
  intro v hv
  rw [Sm.rows_eq, List.mem_flatten] at hv
  obtain ⟨r, hr, hv⟩ := hv
  obtain ⟨e, _, rfl⟩ := List.mem_map.1 hr
  cases e
  simp only [Sm.cells, List.mem_cons, List.not_mem_nil, or_false] at hv
  rcases hv with rfl | rfl | rfl | rfl | rfl | rfl | rfl <;> rfl
theorem app_empty (a b : Option (List V)) (l : List Sm) (hl : l ≠ []) (hn : l.length ≤ 20000) : appM [a, b, some []] 7 112 (.mg 7 2 0 0 0) l.length (Sm.rows l).flatten = some (.mg 7 3 0 l.length l.length, [a, b, none, some (Sm.rows l).flatten]) := by
  have hp : 0 < l.length := List.length_pos_iff.2 hl
  have h1 := flat_one l
  have h2 : 2 * l.length * 112 ≤ 281474976710656 := by omega
  have h3 : ¬ l.length = 0 := by omega
  simp [appM, h1, hp, h2, h3, hl, -List.all_eq_true, -List.length_flatten]
theorem fine_main {p : Pg} (h : p.Fine) {M : List Sm} (h1 : Sm.sizes M ≤ 1000) (h2 : Sm.txts M) (h3 : p.size ≤ 600) : Pg.Fine { p with main := M } := by
  refine ⟨?_, h.txt.1, h2, h.txt.2.2⟩
  have e : Pg.size { p with main := M } = p.psize + Sm.sizes M + Sm.sizes p.recover + p.osize := rfl
  rw [e]
  simp only [Pg.size] at h3
  omega
theorem TypesDrops_eq (p : Pg) (hfit : p.fit) (k : Int) (_ : (Lit.int .i64 k).wf = true) : ∃ H', eval tbl noExt (wNo n_flotsamlaw19_TypesDrops) [.agg p.cells, .int .i64 k] [] = some (.bool true, H') := by
  obtain ⟨b, hb, hs⟩ := Small_eq p
  rw [eval_W tw_flotsamlaw19_TypesDrops rfl]
  cases b with
  | false =>
    simp only [Pg.cells] at hb ⊢
    simp [c_flotsamlaw19_TypesDrops_w, hb, knows19]
  | true =>
    obtain ⟨hsz, htx⟩ := hs rfl
    have hF : p.Fine := ⟨by omega, htx⟩
    have hfp := fine_eq p hF
    have hrl := rows_length p.main
    have hml := Sm.sizes_ge p.main
    have hms : Sm.sizes p.main ≤ 600 := by simp only [Pg.size] at hsz; omega
    by_cases c0 : p.typed = (0, 0)
    case neg =>
      rw [decide_eq_false c0] at hfp
      simp only [Pg.cells] at hb hfp ⊢
      simp [c_flotsamlaw19_TypesDrops_w, hb, knows19, frz_sl, hfp]
    rw [decide_eq_true c0] at hfp
    by_cases c1 : k < 0
    · simp only [Pg.cells] at hb hfp ⊢
      simp [c_flotsamlaw19_TypesDrops_w, hb, knows19, frz_sl, hfp, c1]
    by_cases c2 : (p.main.length : Int) ≤ k
    · simp only [Pg.cells] at hb hfp ⊢
      simp [c_flotsamlaw19_TypesDrops_w, hb, knows19, frz_sl, hfp, c1, c2, hrl]
    obtain ⟨A, x, B, hm, hk⟩ : ∃ A x B, p.main = A ++ x :: B ∧ k = (A.length : Int) := by
      have hlt : k.toNat < p.main.length := by omega
      refine ⟨p.main.take k.toNat, p.main[k.toNat], p.main.drop (k.toNat + 1), ?_, ?_⟩
      · rw [← List.drop_eq_getElem_cons hlt, List.take_append_drop]
      · rw [List.length_take]; omega
    subst hk
    have hrows : Sm.rows p.main = Sm.rows A ++ x.cells :: Sm.rows B := by rw [hm, Sm.rows_append]; rfl
    have hmlen : p.main.length = A.length + (B.length + 1) := by rw [hm]; simp
    have hAl := rows_length A
    have hBl := rows_length B
    have hr : (Sm.rows p.main)[A.length]? = some x.cells := by rw [hrows, List.getElem?_append_right (by omega), hAl]; simp
    have hr2 : ∀ h, (Sm.rows p.main)[A.length]'h = x.cells := fun h => by rw [List.getElem?_eq_getElem h] at hr; exact Option.some.inj hr
    have htk : (Sm.rows p.main).take A.length = Sm.rows A := by rw [hrows, List.take_append_of_le_length (by omega), List.take_of_length_le (by omega)]
    have hdr : (Sm.rows p.main).drop (A.length + 1) = Sm.rows B := by
      rw [hrows, List.drop_append, hAl, List.drop_of_length_le (by omega), show A.length + 1 - A.length = 1 by omega]; rfl
    have htl : (Sm.rows p.main).take p.main.length = Sm.rows p.main := List.take_of_length_le (by omega)
    have hklt : (A.length : Int) < p.main.length := by omega
    have hklt2 : A.length < p.main.length := by omega
    have hknn : ¬ ((A.length : Int) < 0) := by omega
    have hxlen := (Sm.strips x).1
    have hka : A.length ≤ p.main.length := by omega
    have hkb : (A.length : Int) ≤ p.main.length := by omega
    have hkc : A.length + 1 ≤ p.main.length := by omega
    have hkd : (0 : Int) ≤ (A.length : Int) + 1 := by omega
    have hke : ((A.length : Int) + 1).toNat = A.length + 1 := by omega
    have hkf : ¬ ((A.length : Int) + 1 < 0) := by omega
    by_cases c3 : x.op = 12
    · obtain ⟨op, s, n, e, b1, b2, g⟩ := x
      simp only [Sm.op] at c3
      subst c3
      simp only [Sm.cells] at hr hr2
      simp only [Pg.cells] at hb hfp ⊢
      simp [c_flotsamlaw19_TypesDrops_w, hb, knows19, frz_sl, hfp, hknn, hka, hkb, hkc, hkd, hke, hkf, c2, hrl, hr, hr2, hklt, hklt2]
    have hsz2 : Sm.sizes A + Sm.sizes B ≤ 600 ∧ Sm.sizes A + x.size + Sm.sizes B = Sm.sizes p.main := by
      rw [hm, sizes_append, Sm.sizes] at hms ⊢
      omega
    have htxm := htx.2.1
    rw [hm, Sm.txts_append] at htxm
    have hF1 : Pg.Fine { p with main := A ++ B } := fine_main hF (by rw [sizes_append]; omega) (Sm.txts_append.2 ⟨htxm.1, htxm.2.2⟩) hsz
    have hf1 := fine_eq _ hF1
    rw [decide_eq_true (fine_drop hm c3 c0)] at hf1
    have hw1 : IntKind.i64.wrap ((A.length : Int) + 1) = (A.length : Int) + 1 := by rw [w64 (by omega) (by omega)]
    have hle : ((A.length : Int) + 1) ≤ p.main.length := by omega
    have hpA := rows_plain2 A
    have hpB := rows_plain2 B
    have hcapA : 2 * A.length * 112 ≤ 281474976710656 := by omega
    have hcapB : 2 * (A.length + B.length) * 112 ≤ 281474976710656 := by omega
    have hsm1 : ∀ (cs : List V) (o : Nat) (v : V), setMany cs o [v] = cs.set o v := fun _ _ _ => rfl
    have hsm4 : ∀ a b c d e f g h : V, setMany [a, b, c, d] 0 [e, f, g, h] = [e, f, g, h] := fun _ _ _ _ _ _ _ _ => rfl
    have hra : Sm.rows (A ++ B) = Sm.rows A ++ Sm.rows B := Sm.rows_append A B
    have hmne : p.main ≠ [] := by rw [hm]; simp
    have happ : ∀ a b, appM [a, b, some []] 7 112 (.mg 7 2 0 0 0) p.main.length (Sm.rows p.main).flatten = some (.mg 7 3 0 p.main.length p.main.length, [a, b, none, some (Sm.rows p.main).flatten]) := fun a b => app_empty a b p.main hmne (by omega)
    have hput1 := fun y : Sm => rows_put A B x y
    rw [← hm] at hput1
    obtain ⟨op, s, n, e, b1, b2, g⟩ := x
    simp only [Sm.op] at c3
    simp only [Sm.cells] at hr hr2
    have hf1 : eval tbl noExt n_flotsamlaw19_fine [.agg [.sl 2 p.pcells, .sl 7 (Sm.rows A ++ Sm.rows B), .sl 7 (Sm.rows p.recover), .sl 5 p.ocells]] [] = some (.bool true, []) := by rw [← hra]; exact hf1
    rcases List.eq_nil_or_concat A with hA0 | ⟨A', y, hA⟩
    · have hA0' : (A = []) = True := eq_true hA0
      simp only [Pg.cells] at hb hfp ⊢
      simp [c_flotsamlaw19_TypesDrops_w, hb, knows19, frz_sl, hfp, hknn, hka, hkb, hkc, hkd, hke, hkf, c2, hrl, hr, hr2, hklt, hklt2, c3, htk, hdr, htl, hw1, hle, hpA, hpB, hcapA, hcapB, hsm1, hsm4, hAl, hBl, hf1, -setMany, -List.all_eq_true, -List.length_flatten, hA0']
    have hAne : (A = []) = False := eq_false (by rw [hA]; simp)
    have hAlen : A.length = A'.length + 1 := by rw [hA]; simp
    have hwm : IntKind.i64.wrap ((A.length : Int) - 1) = (A'.length : Int) := by rw [w64 (by omega) (by omega)]; omega
    have hm2 : p.main = A' ++ y :: .mk op s n e b1 b2 g :: B := by rw [hm, hA]; simp
    have hAl' := rows_length A'
    have hyr : (Sm.rows p.main)[A'.length]? = some y.cells := by rw [hm2, Sm.rows_append, List.getElem?_append_right (by omega), hAl']; simp [Sm.rows]
    have hyr2 : ∀ h, (Sm.rows p.main)[A'.length]'h = y.cells := fun h => by rw [List.getElem?_eq_getElem h] at hyr; exact Option.some.inj hyr
    have hyl : (A'.length : Int) < p.main.length := by omega
    have hyl2 : A'.length < p.main.length := by omega
    have hput1 := hput1 y
    have hput2 := rows_put A' (y :: B) y (.mk op s n e b1 b2 g)
    have e1 : A' ++ y :: y :: B = A ++ y :: B := by rw [hA]; simp
    rw [e1] at hput2
    have hFl1 := flat_length p.main
    have hFl2 := flat_length (A ++ y :: B)
    have hl2 : (A ++ y :: B).length = p.main.length := by rw [hmlen]; simp
    rw [hl2] at hFl2
    have h7a : A.length * 7 + 7 ≤ p.main.length * 7 := by omega
    have h7b : A'.length * 7 + 7 ≤ p.main.length * 7 := by omega
    obtain ⟨op', s', n', e', b1', b2', g'⟩ := y
    by_cases c4 : op' = 12
    · subst c4
      simp only [Sm.cells] at hyr hyr2
      simp only [Pg.cells] at hb hfp ⊢
      simp [c_flotsamlaw19_TypesDrops_w, hb, knows19, frz_sl, hfp, hknn, hka, hkb, hkc, hkd, hke, hkf, c2, hrl, hr, hr2, hklt, hklt2, c3, htk, hdr, htl, hw1, hle, hpA, hpB, hcapA, hcapB, hsm1, hsm4, hAl, hBl, hf1, -setMany, -List.all_eq_true, -List.length_flatten, hAne, hwm, hyr, hyr2, hyl, hyl2]
    have hM2 := fine_swap hm2 c3 c4 c0
    have hF2 : Pg.Fine { p with main := A' ++ .mk op s n e b1 b2 g :: .mk op' s' n' e' b1' b2' g' :: B } := fine_main hF (by
      rw [hm2, sizes_append] at hms
      rw [sizes_append]
      simp only [Sm.sizes] at hms ⊢
      omega) (by
      have h := htx.2.1
      rw [hm2, Sm.txts_append] at h
      exact Sm.txts_append.2 ⟨h.1, h.2.2.1, h.2.1, h.2.2.2⟩) hsz
    have hf2 := fine_eq _ hF2
    rw [decide_eq_true hM2] at hf2
    have hl3 : (A' ++ .mk op s n e b1 b2 g :: .mk op' s' n' e' b1' b2' g' :: B).length = p.main.length := by rw [hm2]; simp
    have hfz : ∀ a b, frzV deepest [a, b, none, some (Sm.rows (A' ++ .mk op s n e b1 b2 g :: .mk op' s' n' e' b1' b2' g' :: B)).flatten] (.mg 7 3 0 p.main.length p.main.length) = some (.sl 7 (Sm.rows (A' ++ .mk op s n e b1 b2 g :: .mk op' s' n' e' b1' b2' g' :: B)), [a, b, none, none]) := fun a b => by
      rw [← hl3]
      exact frz_mg rfl
    generalize A' ++ .mk op s n e b1 b2 g :: .mk op' s' n' e' b1' b2' g' :: B = M2 at hput2 hf2 hfz
    have hf2 : eval tbl noExt n_flotsamlaw19_fine [.agg [.sl 2 p.pcells, .sl 7 (Sm.rows M2), .sl 7 (Sm.rows p.recover), .sl 5 p.ocells]] [] = some (.bool true, []) := hf2
    simp only [Sm.cells] at hyr hyr2 hput1 hput2
    generalize Sm.rows M2 = R2 at hput2 hf2 hfz
    simp only [Pg.cells] at hb hfp ⊢
    simp [c_flotsamlaw19_TypesDrops_w, hb, knows19, frz_sl, hfp, hknn, hka, hkb, hkc, hkd, hke, hkf, c2, hrl, hr, hr2, hklt, hklt2, c3, htk, hdr, htl, hw1, hle, hpA, hpB, hcapA, hcapB, hsm1, hsm4, hAl, hBl, hf1, -setMany, -List.all_eq_true, -List.length_flatten, hAne, hwm, hyr, hyr2, hyl, hyl2, c4, happ, hput1, hput2, hFl1, hFl2, h7a, h7b, hfz, hf2]
end Go.AM.Spec
