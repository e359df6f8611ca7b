/-
  The parts of this proof that speak of the functions one by one.
-/
import Derived.Test.YtfbmemcafekbkaaSpecTa
import Derived.Test.YtfbmemcafekbkaaTyl
import Derived.Test.YtfbmemcafekbkaaSpc
namespace Go.AM.Spec
set_option linter.unusedVariables false
set_option linter.unusedSimpArgs false
set_option maxHeartbeats 2000000
set_option maxRecDepth 10000

def Ex.subs : Ex → List Ex
  | .mk _ _ _ x => x

/-- What wiping a list of expressions leaves. -/
def WE (x : List Ex) : Prop := ∀ (v : V) (S : List Nat) (H : Heap), LRep 4 H x.length v S (Ex.reps H x) → S.Nodup → ∃ K, eval tbl noExt (wNo n_flotsamlaw16_wipeExprs) [v] H = some (.tup [], K) ∧ K.length = H.length ∧ ∀ q, q ∉ S → K[q]? = H[q]?
def WS (x : List Sm) : Prop := ∀ (v : V) (S : List Nat) (H : Heap), LRep 7 H x.length v S (Sm.reps H x) → S.Nodup → ∃ K, eval tbl noExt (wNo n_flotsamlaw16_wipe) [v] H = some (.tup [], K) ∧ K.length = H.length ∧ ∀ q, q ∉ S → K[q]? = H[q]?

theorem LRep.val {k : Nat} {H : Heap} {n : Nat} {v : V} {S : List Nat} {RR : List (List V) → List Nat → Prop} (h : LRep k H n v S RR) : v = .sl k [] ∨ ∃ i cap, v = .mg k i 0 n cap := by
  rcases h with ⟨_, h, _⟩ | ⟨i, cap, _, _, _, h, _⟩
  · exact .inl h
  · exact .inr ⟨i, cap, h⟩

theorem mid_get (pre cs post : List V) (j : Nat) (hj : j < cs.length) : (pre ++ (cs ++ post))[pre.length + j]? = cs[j]? := by
  rw [List.getElem?_append_right (by omega), Nat.add_sub_cancel_left, List.getElem?_append_left hj]

theorem mid_put : ∀ (vs cs pre post : List V), vs.length = cs.length → setMany (pre ++ (cs ++ post)) pre.length vs = pre ++ (vs ++ post)
  | [], [], pre, post, _ => rfl
  | v :: vs, c :: cs, pre, post, h => by
    have ih := mid_put vs cs (pre ++ [v]) post (by simpa using h)
    simp only [List.length_append, List.length_cons, List.length_nil, List.append_assoc, List.cons_append, List.nil_append] at ih
    show setMany ((pre ++ (c :: (cs ++ post))).set pre.length v) (pre.length + 1) vs = _
    rw [List.set_append_right _ _ (Nat.le_refl _), Nat.sub_self, List.set_cons_zero]
    exact ih

theorem wipeE_loop (i n cap : Nat) (hn : n ≤ 20000) (k : List Item) (Q : Option (V × Heap) → Prop) : ∀ (l : List Ex), (∀ e ∈ l, WE e.subs) → ∀ (j : Nat) (pre : List V) (rows : List (List V)) (S : List Nat) (K : Heap) (junk : List V) (φ : Fr), pre.length = j * 4 → K[i]? = some (some (pre ++ (rows.flatten ++ junk))) → Ex.reps K l rows S → (i :: S).Nodup →
    j + l.length = n → Fr.get φ 0 = .mg 4 i 0 n cap → Fr.get φ 2 = .int .i64 j → (∀ φ' K', K'.length = K.length → (∀ q, q ∉ i :: S → K'[q]? = K[q]?) → Q (M (eval tbl noExt) k φ' K')) → Q (M (eval tbl noExt) (.code l_flotsamlaw16_wipeExprs_w_0 :: .blk 0 :: k) φ K)
  | [], hW, j, pre, rows, S, K, junk, φ, hp, hi, hr, hnd, hj, h0, h2, he => by
    have hlt : ¬ (j : Int) < n := by simp at hj; omega
    have hlt' : ¬ j < n := by simp at hj; omega
    rw [l_flotsamlaw16_wipeExprs_w_0, M_loop, ← l_flotsamlaw16_wipeExprs_w_0]
    simp [b_flotsamlaw16_wipeExprs_w_0, h0, h2, hlt']
    exact he _ _ rfl (fun _ _ => rfl)
  | .mk op m s x :: l, hW, j, pre, rows, S, K, junk, φ, hp, hi, hr, hnd, hj, h0, h2, he => by
    obtain ⟨r, rs, S1, S2, rfl, rfl, ⟨v, rfl, hv⟩, hrs⟩ := hr
    simp only [List.length_cons] at hj
    have hlt : (j : Int) < n := by omega
    have hlt' : j < n := by omega
    have hw : IntKind.i64.wrap ((j : Int) + 1) = ((j + 1 : Nat) : Int) := by rw [w64 (by omega) (by omega)]; rfl
    obtain ⟨hni, hnd2⟩ := List.nodup_cons.1 hnd
    obtain ⟨hnd3, hnd4, hdis⟩ := List.nodup_append.1 hnd2
    obtain ⟨K1, hE, hl1, hf1⟩ := hW _ (List.mem_cons_self ..) v S1 K hv hnd3
    have hi1 : K1[i]? = some (some (pre ++ ([.int .i64 op, .int .i64 m, .str s, v] ++ (rs.flatten ++ junk)))) := by
      rw [hf1 i (fun h => hni (List.mem_append_left _ h)), hi]
      simp
    have hi0 : K[i]? = some (some (pre ++ ([.int .i64 op, .int .i64 m, .str s, v] ++ (rs.flatten ++ junk)))) := by
      rw [hi]; simp
    have hg := mid_get pre [.int .i64 op, .int .i64 m, .str s, v] (rs.flatten ++ junk) 3 (by simp)
    have hP := mid_put [.int .i64 99, .int .i64 0, .str [], .sl 4 []] [.int .i64 op, .int .i64 m, .str s, v] pre (rs.flatten ++ junk) rfl
    rw [hp] at hg hP
    have hlen : (pre ++ ([.int .i64 op, .int .i64 m, .str s, v] ++ (rs.flatten ++ junk))).length = j * 4 + 4 + (rs.flatten ++ junk).length := by
      simp only [List.length_append, List.length_cons, List.length_nil, hp]; omega
    have hroom : j * 4 + 4 ≤ j * 4 + 4 + (rs.flatten ++ junk).length := by omega
    have hg3 : (pre ++ ([.int .i64 op, .int .i64 m, .str s, v] ++ (rs.flatten ++ junk)))[j * 4 + 3]? = some v := hg
    have hvv := hv.val
    obtain ⟨C, hC⟩ : ∃ C, C = pre ++ ([.int .i64 op, .int .i64 m, .str s, v] ++ (rs.flatten ++ junk)) := ⟨_, rfl⟩
    rw [← hC] at hi0 hi1 hlen hg3 hP
    have hi0' : ∀ h, K[i]'h = some C := fun h => by rw [List.getElem?_eq_getElem h] at hi0; exact Option.some.inj hi0
    have hi1' : ∀ h, K1[i]'h = some C := fun h => by rw [List.getElem?_eq_getElem h] at hi1; exact Option.some.inj hi1
    have hih := fun φ' g0 g2 => wipeE_loop i n cap hn k Q l (fun e he => hW e (List.mem_cons_of_mem _ he)) (j + 1) (pre ++ [.int .i64 99, .int .i64 0, .str [], .sl 4 []]) rs S2
      (K1.set i (some (pre ++ ([.int .i64 99, .int .i64 0, .str [], .sl 4 []] ++ (rs.flatten ++ junk))))) junk φ' (by simp [hp]; omega) (by
        rw [List.getElem?_set_self (by have := List.getElem?_eq_some_iff.1 hi1; exact this.1)]; simp) (Ex.reps_frame hrs fun q hq => by
        have hq1 : q ≠ i := fun e => hni (by rw [← e]; exact List.mem_append_right _ hq)
        rw [List.getElem?_set_ne (Ne.symm hq1), hf1 q (fun h => hdis q h q hq rfl)])
      (List.nodup_cons.2 ⟨fun h => hni (List.mem_append_right _ h), hnd4⟩) (by omega) g0 g2 (fun φ2 K2 hl2 hf2 => he φ2 K2 (by rw [hl2, List.length_set, hl1]) fun q hq => by
        rw [hf2 q (fun h => hq (by rcases List.mem_cons.1 h with h | h; exact h ▸ List.mem_cons_self ..; exact List.mem_cons_of_mem _ (List.mem_append_right _ h)))]
        have hq1 : q ≠ i := fun e => hq (by rw [e]; exact List.mem_cons_self ..)
        rw [List.getElem?_set_ne (Ne.symm hq1), hf1 q (fun h => hq (List.mem_cons_of_mem _ (List.mem_append_left _ h)))])
    rw [l_flotsamlaw16_wipeExprs_w_0, M_loop, ← l_flotsamlaw16_wipeExprs_w_0]
    rcases hvv with rfl | ⟨i2, cap2, rfl⟩ <;>
    · simp [b_flotsamlaw16_wipeExprs_w_0, h0, h2, hlt, hlt', hw, hi0, hi1, hi0', hi1', hg3, hE, hlen, hroom, hP]
      refine hih _ ?_ ?_
      all_goals simp [h0]

theorem wipeE_step (x : List Ex) (hx : x.length ≤ 20000) (hW : ∀ e ∈ x, WE e.subs) : WE x := by
  intro v S H hv hnd
  rcases hv with ⟨h1, rfl, rfl⟩ | ⟨i, cap, junk, rows, S', rfl, rfl, h1, h2, h3⟩
  · refine ⟨H, ?_, rfl, fun _ _ => rfl⟩
    rw [eval_W tw_flotsamlaw16_wipeExprs rfl]
    simp [c_flotsamlaw16_wipeExprs_w]
    rw [l_flotsamlaw16_wipeExprs_w_0, M_loop, ← l_flotsamlaw16_wipeExprs_w_0]
    simp [b_flotsamlaw16_wipeExprs_w_0]
  · have e : eval tbl noExt (wNo n_flotsamlaw16_wipeExprs) [.mg 4 i 0 x.length cap] H = M (eval tbl noExt) [.code l_flotsamlaw16_wipeExprs_w_0, .blk 0, .wfn []] [(2, .int .i64 0), (0, .mg 4 i 0 x.length cap)] H := by
      rw [eval_W tw_flotsamlaw16_wipeExprs rfl]
      simp [c_flotsamlaw16_wipeExprs_w]
    rw [e]
    refine wipeE_loop i x.length cap hx _ (fun y => ∃ K, y = some (.tup [], K) ∧ K.length = H.length ∧ ∀ q, q ∉ i :: S' → K[q]? = H[q]?) x hW 0 [] rows S' H junk _ rfl (by simpa using h1) h2 hnd (by omega) ?_ ?_ ?_
    · simp
    · simp
    · intro φ' K' hl hf
      exact ⟨K', by simp, hl, hf⟩

theorem wipeE_ok : ∀ (n : Nat) (x : List Ex), Ex.sizes x ≤ n → n ≤ 20000 → WE x
  | 0, x, h, _ => by
    cases x with
    | nil => exact wipeE_step [] (by simp) (fun e he => by cases he)
    | cons a l => cases a; simp [Ex.sizes, Ex.size] at h
  | n + 1, x, h, hn => by
    have hlen : ∀ l : List Ex, l.length ≤ Ex.sizes l := by
      intro l
      induction l with
      | nil => exact Nat.zero_le _
      | cons a l ih => cases a; simp [Ex.sizes, Ex.size]; omega
    refine wipeE_step x (by have := hlen x; omega) fun e he => ?_
    refine wipeE_ok n e.subs ?_ (by omega)
    have := Ex.sizes_mem he
    cases e
    simp only [Ex.size, Ex.subs] at this ⊢
    omega

end Go.AM.Spec

namespace Go.AM.Spec
set_option linter.unusedVariables false
set_option linter.unusedSimpArgs false
set_option maxHeartbeats 4000000
set_option maxRecDepth 10000

def Sm.es : Sm → List Ex
  | .mk _ _ _ e _ _ _ => e
def Sm.bd : Sm → List Sm
  | .mk _ _ _ _ b _ _ => b
def Sm.el : Sm → List Sm
  | .mk _ _ _ _ _ c _ => c

theorem wipeS_loop (i n cap : Nat) (hn : n ≤ 20000) (k : List Item) (Q : Option (V × Heap) → Prop) : ∀ (l : List Sm), (∀ e ∈ l, WE e.es ∧ WS e.bd ∧ WS e.el) → ∀ (j : Nat) (pre : List V) (rows : List (List V)) (S : List Nat) (K : Heap) (junk : List V) (φ : Fr), pre.length = j * 7 → K[i]? = some (some (pre ++ (rows.flatten ++ junk))) → Sm.reps K l rows S → (i :: S).Nodup →
    j + l.length = n → Fr.get φ 0 = .mg 7 i 0 n cap → Fr.get φ 2 = .int .i64 j → (∀ φ' K', K'.length = K.length → (∀ q, q ∉ i :: S → K'[q]? = K[q]?) → Q (M (eval tbl noExt) k φ' K')) → Q (M (eval tbl noExt) (.code l_flotsamlaw16_wipe_w_0 :: .blk 0 :: k) φ K)
  | [], hW, j, pre, rows, S, K, junk, φ, hp, hi, hr, hnd, hj, h0, h2, he => by
    have hlt : ¬ (j : Int) < n := by simp at hj; omega
    have hlt' : ¬ j < n := by simp at hj; omega
    rw [l_flotsamlaw16_wipe_w_0, M_loop, ← l_flotsamlaw16_wipe_w_0]
    simp [b_flotsamlaw16_wipe_w_0, h0, h2, hlt']
    exact he _ _ rfl (fun _ _ => rfl)
  | .mk op s m e b c g :: l, hW, j, pre, rows, S, K, junk, φ, hp, hi, hr, hnd, hj, h0, h2, he => by
    obtain ⟨r, rs, T, S2, rfl, rfl, ⟨v1, v2, v3, A1, A2, A3, rfl, rfl, hv1, hv2, hv3⟩, hrs⟩ := hr
    simp only [List.length_cons] at hj
    have hlt : (j : Int) < n := by omega
    have hlt' : j < n := by omega
    have hw : IntKind.i64.wrap ((j : Int) + 1) = ((j + 1 : Nat) : Int) := by rw [w64 (by omega) (by omega)]; rfl
    obtain ⟨hni, hnd2⟩ := List.nodup_cons.1 hnd
    obtain ⟨hndT, hndS, hdis⟩ := List.nodup_append.1 hnd2
    obtain ⟨hA1, hA23, hd1⟩ := List.nodup_append.1 hndT
    obtain ⟨hA2, hA3, hd2⟩ := List.nodup_append.1 hA23
    have i1 : i ∉ A1 := fun h => hni (by simp [h])
    have i2 : i ∉ A2 := fun h => hni (by simp [h])
    have i3 : i ∉ A3 := fun h => hni (by simp [h])
    obtain ⟨w1, w2, w3⟩ := hW _ (List.mem_cons_self ..)
    obtain ⟨K1, hE1, hl1, hf1⟩ := w1 v1 A1 K hv1 hA1
    have hv2' : LRep 7 K1 b.length v2 A2 (Sm.reps K1 b) := hv2.frame (fun q hq => hf1 q (fun h => hd1 q h q (List.mem_append_left _ hq) rfl)) fun rows S' hs h => Sm.reps_frame h fun q hq => hf1 q (fun h => hd1 q h q (List.mem_append_left _ (hs q hq)) rfl)
    obtain ⟨K2, hE2, hl2, hf2⟩ := w2 v2 A2 K1 hv2' hA2
    have hv3' : LRep 7 K2 c.length v3 A3 (Sm.reps K2 c) := hv3.frame (fun q hq => by
      rw [hf2 q (fun h => hd2 q h q hq rfl), hf1 q (fun h => hd1 q h q (List.mem_append_right _ hq) rfl)]) fun rows S' hs h => Sm.reps_frame h fun q hq => by
      rw [hf2 q (fun h => hd2 q h q (hs q hq) rfl), hf1 q (fun h => hd1 q h q (List.mem_append_right _ (hs q hq)) rfl)]
    obtain ⟨K3, hE3, hl3, hf3⟩ := w3 v3 A3 K2 hv3' hA3
    have hi0 : K[i]? = some (some (pre ++ ([.int .i64 op, .str s, .int .i64 m, v1, v2, v3, .bool g] ++ (rs.flatten ++ junk)))) := by
      rw [hi]; simp
    have hi1 : K1[i]? = some (some (pre ++ ([.int .i64 op, .str s, .int .i64 m, v1, v2, v3, .bool g] ++ (rs.flatten ++ junk)))) := by rw [hf1 i i1, hi0]
    have hi2 : K2[i]? = some (some (pre ++ ([.int .i64 op, .str s, .int .i64 m, v1, v2, v3, .bool g] ++ (rs.flatten ++ junk)))) := by rw [hf2 i i2, hi1]
    have hi3 : K3[i]? = some (some (pre ++ ([.int .i64 op, .str s, .int .i64 m, v1, v2, v3, .bool g] ++ (rs.flatten ++ junk)))) := by rw [hf3 i i3, hi2]
    have hg3 : (pre ++ ([.int .i64 op, .str s, .int .i64 m, v1, v2, v3, .bool g] ++ (rs.flatten ++ junk)))[j * 7 + 3]? = some v1 := by rw [← hp]; exact mid_get pre [.int .i64 op, .str s, .int .i64 m, v1, v2, v3, .bool g] (rs.flatten ++ junk) 3 (by simp)
    have hg4 : (pre ++ ([.int .i64 op, .str s, .int .i64 m, v1, v2, v3, .bool g] ++ (rs.flatten ++ junk)))[j * 7 + 4]? = some v2 := by rw [← hp]; exact mid_get pre [.int .i64 op, .str s, .int .i64 m, v1, v2, v3, .bool g] (rs.flatten ++ junk) 4 (by simp)
    have hg5 : (pre ++ ([.int .i64 op, .str s, .int .i64 m, v1, v2, v3, .bool g] ++ (rs.flatten ++ junk)))[j * 7 + 5]? = some v3 := by rw [← hp]; exact mid_get pre [.int .i64 op, .str s, .int .i64 m, v1, v2, v3, .bool g] (rs.flatten ++ junk) 5 (by simp)
    have hP := mid_put [.int .i64 99, .str [], .int .i64 0, .sl 4 [], .sl 7 [], .sl 7 [], .bool false] [.int .i64 op, .str s, .int .i64 m, v1, v2, v3, .bool g] pre (rs.flatten ++ junk) rfl
    rw [hp] at hP
    have hlen : (pre ++ ([.int .i64 op, .str s, .int .i64 m, v1, v2, v3, .bool g] ++ (rs.flatten ++ junk))).length = j * 7 + 7 + (rs.flatten ++ junk).length := by
      simp only [List.length_append, List.length_cons, List.length_nil, hp]; omega
    have hroom : j * 7 + 7 ≤ j * 7 + 7 + (rs.flatten ++ junk).length := by omega
    have hvv1 := hv1.val
    have hvv2 := hv2.val
    have hvv3 := hv3.val
    obtain ⟨C, hC⟩ : ∃ C, C = pre ++ ([.int .i64 op, .str s, .int .i64 m, v1, v2, v3, .bool g] ++ (rs.flatten ++ junk)) := ⟨_, rfl⟩
    rw [← hC] at hi0 hi1 hi2 hi3 hlen hg3 hg4 hg5 hP
    have hi0' : ∀ h, K[i]'h = some C := fun h => by rw [List.getElem?_eq_getElem h] at hi0; exact Option.some.inj hi0
    have hi1' : ∀ h, K1[i]'h = some C := fun h => by rw [List.getElem?_eq_getElem h] at hi1; exact Option.some.inj hi1
    have hi2' : ∀ h, K2[i]'h = some C := fun h => by rw [List.getElem?_eq_getElem h] at hi2; exact Option.some.inj hi2
    have hi3' : ∀ h, K3[i]'h = some C := fun h => by rw [List.getElem?_eq_getElem h] at hi3; exact Option.some.inj hi3
    have hall : ∀ q, q ∉ A1 ++ (A2 ++ A3) → K3[q]? = K[q]? := fun q hq => by
      simp only [List.mem_append, not_or] at hq
      rw [hf3 q hq.2.2, hf2 q hq.2.1, hf1 q hq.1]
    have hih := fun φ' g0 g2 => wipeS_loop i n cap hn k Q l (fun e he => hW e (List.mem_cons_of_mem _ he)) (j + 1) (pre ++ [.int .i64 99, .str [], .int .i64 0, .sl 4 [], .sl 7 [], .sl 7 [], .bool false]) rs S2
      (K3.set i (some (pre ++ ([.int .i64 99, .str [], .int .i64 0, .sl 4 [], .sl 7 [], .sl 7 [], .bool false] ++ (rs.flatten ++ junk))))) junk φ' (by simp [hp]; omega) (by
        rw [List.getElem?_set_self (by have := List.getElem?_eq_some_iff.1 hi3; exact this.1)]; simp) (Sm.reps_frame hrs fun q hq => by
        have hq1 : q ≠ i := fun e => hni (by rw [← e]; exact List.mem_append_right _ hq)
        rw [List.getElem?_set_ne (Ne.symm hq1), hall q (fun h => hdis q h q hq rfl)])
      (List.nodup_cons.2 ⟨fun h => hni (List.mem_append_right _ h), hndS⟩) (by omega) g0 g2 (fun φ2 K2' hl2' hf2' => he φ2 K2' (by rw [hl2', List.length_set, hl3, hl2, hl1]) fun q hq => by
        rw [hf2' q (fun h => hq (by rcases List.mem_cons.1 h with h | h; exact h ▸ List.mem_cons_self ..; exact List.mem_cons_of_mem _ (List.mem_append_right _ h)))]
        have hq1 : q ≠ i := fun e => hq (by rw [e]; exact List.mem_cons_self ..)
        rw [List.getElem?_set_ne (Ne.symm hq1), hall q (fun h => hq (List.mem_cons_of_mem _ (List.mem_append_left _ h)))])
    rw [l_flotsamlaw16_wipe_w_0, M_loop, ← l_flotsamlaw16_wipe_w_0]
    rcases hvv1 with rfl | ⟨k1, c1, rfl⟩ <;> rcases hvv2 with rfl | ⟨k2, c2, rfl⟩ <;> rcases hvv3 with rfl | ⟨k3, c3, rfl⟩ <;>
    · simp [b_flotsamlaw16_wipe_w_0, h0, h2, hlt, hlt', hw, hi0, hi1, hi2, hi3, hi0', hi1', hi2', hi3', hg3, hg4, hg5, hE1, hE2, hE3, hlen, hroom, hP]
      refine hih _ ?_ ?_
      all_goals simp [h0]

theorem wipeS_step (x : List Sm) (hx : x.length ≤ 20000) (hW : ∀ e ∈ x, WE e.es ∧ WS e.bd ∧ WS e.el) : WS x := by
  intro v S H hv hnd
  rcases hv with ⟨h1, rfl, rfl⟩ | ⟨i, cap, junk, rows, S', rfl, rfl, h1, h2, h3⟩
  · refine ⟨H, ?_, rfl, fun _ _ => rfl⟩
    rw [eval_W tw_flotsamlaw16_wipe rfl]
    simp [c_flotsamlaw16_wipe_w]
    rw [l_flotsamlaw16_wipe_w_0, M_loop, ← l_flotsamlaw16_wipe_w_0]
    simp [b_flotsamlaw16_wipe_w_0]
  · have e : eval tbl noExt (wNo n_flotsamlaw16_wipe) [.mg 7 i 0 x.length cap] H = M (eval tbl noExt) [.code l_flotsamlaw16_wipe_w_0, .blk 0, .wfn []] [(2, .int .i64 0), (0, .mg 7 i 0 x.length cap)] H := by
      rw [eval_W tw_flotsamlaw16_wipe rfl]
      simp [c_flotsamlaw16_wipe_w]
    rw [e]
    refine wipeS_loop i x.length cap hx _ (fun y => ∃ K, y = some (.tup [], K) ∧ K.length = H.length ∧ ∀ q, q ∉ i :: S' → K[q]? = H[q]?) x hW 0 [] rows S' H junk _ rfl (by simpa using h1) h2 hnd (by omega) ?_ ?_ ?_
    · simp
    · simp
    · intro φ' K' hl hf
      exact ⟨K', by simp, hl, hf⟩

theorem wipeS_ok : ∀ (n : Nat) (x : List Sm), Sm.sizes x ≤ n → n ≤ 20000 → WS x
  | 0, x, h, _ => by
    cases x with
    | nil => exact wipeS_step [] (by simp) (fun e he => by cases he)
    | cons a l => cases a; simp [Sm.sizes, Sm.size] at h
  | n + 1, x, h, hn => by
    have hlen : ∀ l : List Sm, l.length ≤ Sm.sizes l := by
      intro l
      induction l with
      | nil => exact Nat.zero_le _
      | cons a l ih => cases a; simp [Sm.sizes, Sm.size]; omega
    refine wipeS_step x (by have := hlen x; omega) fun e he => ?_
    have hm := Sm.sizes_mem he
    cases e
    simp only [Sm.size, Sm.es, Sm.bd, Sm.el] at hm ⊢
    exact ⟨wipeE_ok n _ (by omega) (by omega), wipeS_ok n _ (by omega) (by omega), wipeS_ok n _ (by omega) (by omega)⟩

end Go.AM.Spec

namespace Go.AM.Spec
set_option linter.unusedVariables false
set_option linter.unusedSimpArgs false
set_option maxHeartbeats 2000000
set_option maxRecDepth 10000

theorem set_ne {H : Heap} {i : Nat} {x : Option (List V)} {j : Nat} (h : j ≠ i) : (H.set i x)[j]? = H[j]? := List.getElem?_set_ne (fun e => h e.symm)
theorem set_eq {H : Heap} {i : Nat} {x y : Option (List V)} (h : H[i]? = some y) : (H.set i x)[i]? = some x := List.getElem?_set_self (List.getElem?_eq_some_iff.1 h).1

/-! ## Freezing -/

theorem GReps.frz {α : Type} {R : Heap → α → List V → List Nat → Prop} {g : α → List V} {n : Nat} (hR : ∀ H K a r S, R H a r S → (∀ i ∈ S, K[i]? = H[i]?) → R K a r S) : ∀ {l : List α} {H : Heap} {rows : List (List V)} {S : List Nat},
    (∀ e ∈ l, ∀ H r S, R H e r S → S.Nodup → ∃ K, frzL (frzV n) H r = some (g e, K) ∧ ∀ j, j ∉ S → K[j]? = H[j]?) → GReps R H l rows S → S.Nodup →
    ∃ K, frzL (frzV n) H rows.flatten = some ((l.map g).flatten, K) ∧ ∀ j, j ∉ S → K[j]? = H[j]?
  | [], H, _, _, _, ⟨rfl, rfl⟩, _ => ⟨H, rfl, fun _ _ => rfl⟩
  | e :: l, H, _, _, hf, ⟨r, rs, S1, S2, rfl, rfl, h3, h4⟩, hnd => by
    obtain ⟨d1, d2, d3⟩ := List.nodup_append.1 hnd
    obtain ⟨K1, k1, f1⟩ := hf e (by simp) H r S1 h3 d1
    obtain ⟨K2, k2, f2⟩ := GReps.frz hR (fun e he => hf e (by simp [he])) (GReps.frame hR h4 fun j hj => f1 j fun h => d3 j h j hj rfl) d2
    refine ⟨K2, by rw [List.flatten_cons, List.map_cons, List.flatten_cons]; exact frzL_app k1 k2, fun j hj => ?_⟩
    rw [f2 j fun h => hj (List.mem_append_right _ h), f1 j fun h => hj (List.mem_append_left _ h)]

theorem frzListG {α : Type} {R : Heap → α → List V → List Nat → Prop} {g : α → List V} {n w : Nat} (hR : ∀ H K a r S, R H a r S → (∀ i ∈ S, K[i]? = H[i]?) → R K a r S) (hw : ∀ H a r S, R H a r S → r.length = w) (hg : ∀ e, (g e).length = w)
    {l : List α} {H : Heap} {v : V} {S : List Nat} (hf : ∀ e ∈ l, ∀ H r S, R H e r S → S.Nodup → ∃ K, frzL (frzV n) H r = some (g e, K) ∧ ∀ j, j ∉ S → K[j]? = H[j]?) (h : LRep w H l.length v S (GReps R H l)) (hnd : S.Nodup) :
    ∃ K, frzV (n + 1) H v = some (.sl w (l.map g), K) ∧ ∀ j, j ∉ S → K[j]? = H[j]? :=
  frz_list (n := n) (rowsL := l.map g) h hnd (fun rows S' h => h.flat hw) (fun r hr => by obtain ⟨e, _, rfl⟩ := List.mem_map.1 hr; exact hg e) (by simp)
    (fun rows S' i h h2 h3 => GReps.frz hR hf (GReps.frame hR h fun j hj => set_ne (fun e => h3 (e ▸ hj))) h2)

theorem Pg.frz {p : Pg} {H : Heap} {cells : List V} {S : List Nat} {n : Nat} (h : Pg.rep H p cells S) (hnd : S.Nodup) (hn : p.size ≤ n) : ∃ K, frzL (frzV (n + 2)) H cells = some (p.cells, K) ∧ ∀ j, j ∉ S → K[j]? = H[j]? := by
  obtain ⟨v1, v2, v3, v4, S1, S2, S3, S4, rfl, rfl, l1, l2, l3, l4⟩ := h
  have hs := p.size_eq
  have hp : ∀ x ∈ p.procs, Sm.sizes x.2 ≤ n := fun x hx => by
    have hm : x.2 ∈ p.bodies := by simp only [Pg.bodies, List.mem_map]; exact ⟨x, hx, rfl⟩
    have := sizes_flatten hm
    omega
  have ho : ∀ x ∈ p.oracles, x.2.size ≤ n := fun x hx => by
    have hm : x.2 ∈ p.exprs := by simp only [Pg.exprs, List.mem_map]; exact ⟨x, hx, rfl⟩
    have := Ex.sizes_mem hm
    omega
  obtain ⟨d1, d234, e1⟩ := List.nodup_append.1 hnd
  obtain ⟨d2, d34, e2⟩ := List.nodup_append.1 d234
  obtain ⟨d3, d4, e3⟩ := List.nodup_append.1 d34
  obtain ⟨K1, k1, f1⟩ := frzListG (R := PrR) (g := procV) (n := n + 1) (fun _ _ _ _ _ h hS => PrR.frame h hS) (fun _ _ _ _ h => PrR.len h) (fun _ => rfl) (fun x hx H r S h hnd => by
    obtain ⟨v, rfl, hv⟩ := h
    obtain ⟨K, hK, hfr⟩ := Sm.frzList hv hnd (hp x hx)
    exact ⟨K, frzL_cons (H1 := H) (by simp [frzV]) (frzL_cons hK rfl), hfr⟩) l1 d1
  have g2 : ∀ j ∈ S2, K1[j]? = H[j]? := fun j hj => f1 j fun h => e1 j h j (by simp [hj]) rfl
  obtain ⟨K2, k2, f2⟩ := Sm.frzList (n := n + 1) (l2.frame g2 fun rows S' hs h => Sm.reps_frame h fun j hj => g2 j (hs j hj)) d2 (by omega)
  have g3 : ∀ j ∈ S3, K2[j]? = H[j]? := fun j hj => by rw [f2 j fun h => e2 j h j (by simp [hj]) rfl, f1 j fun h => e1 j h j (by simp [hj]) rfl]
  obtain ⟨K3, k3, f3⟩ := Sm.frzList (n := n + 1) (l3.frame g3 fun rows S' hs h => Sm.reps_frame h fun j hj => g3 j (hs j hj)) d3 (by omega)
  have g4 : ∀ j ∈ S4, K3[j]? = H[j]? := fun j hj => by rw [f3 j fun h => e3 j h j hj rfl, f2 j fun h => e2 j h j (by simp [hj]) rfl, f1 j fun h => e1 j h j (by simp [hj]) rfl]
  obtain ⟨K4, k4, f4⟩ := frzListG (R := OrR) (g := oracleV) (n := n + 1) (fun _ _ _ _ _ h hS => OrR.frame h hS) (fun _ _ _ _ h => OrR.len h) (fun x => by obtain ⟨s, e⟩ := x; cases e; rfl) (fun x hx H r S h hnd => by
    obtain ⟨c, rfl, hv⟩ := h
    obtain ⟨K, hK, hfr⟩ := Ex.frz x.2 (n + 1) H c S hv hnd (by have := ho x hx; omega)
    exact ⟨K, frzL_cons (H1 := H) (by simp [frzV]) hK, hfr⟩) (l4.frame g4 fun rows S' hs h => GReps.frame (R := OrR) (fun _ _ _ _ _ h hS => OrR.frame h hS) h fun j hj => g4 j (hs j hj)) d4
  refine ⟨K4, frzL_cons k1 (frzL_cons k2 (frzL_cons k3 (frzL_cons k4 rfl))), fun j hj => ?_⟩
  simp only [List.mem_append, not_or] at hj
  rw [f4 j hj.2.2.2, f3 j hj.2.2.1, f2 j hj.2.1, f1 j hj.1]

end Go.AM.Spec

namespace Go.AM.Spec
set_option linter.unusedVariables false
set_option linter.unusedSimpArgs false
set_option maxHeartbeats 1000000
set_option maxRecDepth 10000

def CeOK (e : Ex) : Prop := eval tbl noExt n_flotsamref16_CopyExpr [.agg e.cells] [] = some (.agg e.cells, [])

theorem CopyExpr_loop (op m : Int) (s : List UInt8) (z : List V) (x : List Ex) (hl : x.length ≤ 20000) (hx : ∀ e ∈ x, CeOK e) (Q : Option (V × Heap) → Prop) (k : List Item)
    (hexit : ∀ φ', Fr.get φ' 1 = .ptr 0 0 → Fr.get φ' 2 = .ptr 1 0 → Fr.get φ' 3 = .own 4 (Ex.rows x) → Q (M (eval tbl noExt) k φ' [some [.int .i64 op, .int .i64 m, .str s, .sl 4 (Ex.rows x)], some z])) :
    ∀ (j i : Nat) (φ : Fr), i + j = x.length → Fr.get φ 1 = .ptr 0 0 → Fr.get φ 2 = .ptr 1 0 → Fr.get φ 3 = .own 4 (Ex.rows (x.take i)) → Fr.get φ 4 = .int .i64 i →
      Q (M (eval tbl noExt) (.code l_flotsamref16_CopyExpr_0 :: .blk 0 :: k) φ [some [.int .i64 op, .int .i64 m, .str s, .sl 4 (Ex.rows x)], some z]) := by
  intro j
  induction j with
  | zero =>
    intro i φ hj h1 h2 h3 h4
    have hi : ¬ ((i : Int) < x.length) := by omega
    have h3' : Fr.get φ 3 = .own 4 (Ex.rows x) := by rw [h3, List.take_of_length_le (by omega)]
    have hcl : (Ex.rows x).length = x.length := by rw [Ex.rows_eq]; simp
    rw [l_flotsamref16_CopyExpr_0, M_loop, ← l_flotsamref16_CopyExpr_0]
    simp [b_flotsamref16_CopyExpr_0, h1, h2, h3', h4, hi, hcl]
    exact hexit _ (by simp [h1]) (by simp [h2]) (by simp [h3'])
  | succ j ih =>
    intro i φ hj h1 h2 h3 h4
    have hi : (i : Int) < x.length := by omega
    have hil : i < x.length := by omega
    obtain ⟨e, he⟩ : ∃ e, x[i]? = some e := ⟨x[i], List.getElem?_eq_getElem hil⟩
    have hmem : e ∈ x := List.mem_of_getElem? he
    have hrow : (Ex.rows x)[i]? = some e.cells := by rw [Ex.rows_eq, List.getElem?_map, he]; rfl
    have hcl : (Ex.rows x).length = x.length := by rw [Ex.rows_eq]; simp
    have hck : (Ex.rows (x.take i)).length = i := by rw [Ex.rows_eq]; simp; omega
    have hnext : Ex.rows (x.take i) ++ [e.cells] = Ex.rows (x.take (i + 1)) := by
      rw [Ex.rows_eq, Ex.rows_eq, List.take_add_one, he]; simp
    have hw : IntKind.i64.wrap ((i : Int) + 1) = ((i + 1 : Nat) : Int) := by rw [w64 (by omega) (by omega)]; rfl
    have hb : 2 * (i + 1) * 56 ≤ 281474976710656 := by omega
    have hcall := hx _ hmem
    unfold CeOK at hcall
    obtain ⟨eop, em, es, ex⟩ := e
    simp only [Ex.cells] at hrow hnext hcall
    rw [l_flotsamref16_CopyExpr_0, M_loop, ← l_flotsamref16_CopyExpr_0]
    simp [b_flotsamref16_CopyExpr_0, h1, h2, h3, h4, hi, hcl, hrow, hcall, hck, lt_flotsamref16_CopyExpr, hnext, hw, hb]
    refine ih (i + 1) _ (by omega) ?_ ?_ ?_ ?_ <;> simp [h1, h2]

theorem CopyExpr_eq : ∀ (n : Nat) (e : Ex), e.size ≤ n → n ≤ 20000 → CeOK e := by
  intro n
  induction n with
  | zero => intro e h; cases e; simp only [Ex.size] at h; omega
  | succ n ih =>
    intro e h hn
    obtain ⟨op, m, s, x⟩ := e
    simp only [Ex.size] at h
    have hx := Ex.sizes_ge x
    unfold CeOK
    rw [eval_M rfl rfl t_flotsamref16_CopyExpr rfl]
    simp [c_flotsamref16_CopyExpr, Ex.cells]
    refine CopyExpr_loop op m s _ x (by omega) (fun e he => ih e (by have := Ex.sizes_mem he; omega) (by omega)) (fun o => o = _) _ (fun φ' h1 h2 h3 => ?_) x.length 0 _ (by omega) ?_ ?_ ?_ ?_
    · simp [r_flotsamref16_CopyExpr_0, h1, h2, h3]
    all_goals simp [Ex.rows]

def CsOK (l : List Sm) : Prop := eval tbl noExt n_flotsamref16_CopyStmts [.sl 7 (Sm.rows l)] [] = some (.own 7 (Sm.rows l), [])

theorem CopyS_inner (K : Heap) (q : Nat) (cs : List V) (hq : K[q]? = some (some cs)) (x : List Ex) (hc3 : cs[3]? = some (.sl 4 (Ex.rows x))) (hl : x.length ≤ 20000) (hx : ∀ e ∈ x, CeOK e) (a0 a3 a4 : V) (Q : Option (V × Heap) → Prop) (k : List Item)
    (hexit : ∀ φ', Fr.get φ' 0 = a0 → Fr.get φ' 3 = a3 → Fr.get φ' 4 = a4 → Fr.get φ' 5 = .ptr q 0 → Fr.get φ' 6 = .own 4 (Ex.rows x) → Q (M (eval tbl noExt) k φ' K)) :
    ∀ (j i : Nat) (φ : Fr), i + j = x.length → Fr.get φ 0 = a0 → Fr.get φ 3 = a3 → Fr.get φ 4 = a4 → Fr.get φ 5 = .ptr q 0 → Fr.get φ 6 = .own 4 (Ex.rows (x.take i)) → Fr.get φ 7 = .int .i64 i →
      Q (M (eval tbl noExt) (.code l_flotsamref16_CopyStmts_0 :: .blk 2 :: k) φ K) := by
  intro j
  induction j with
  | zero =>
    intro i φ hj h0 h3 h4 h5 h6 h7
    have hi : ¬ ((i : Int) < x.length) := by omega
    have h6' : Fr.get φ 6 = .own 4 (Ex.rows x) := by rw [h6, List.take_of_length_le (by omega)]
    have hcl : (Ex.rows x).length = x.length := by rw [Ex.rows_eq]; simp
    rw [l_flotsamref16_CopyStmts_0, M_loop, ← l_flotsamref16_CopyStmts_0]
    simp [b_flotsamref16_CopyStmts_0, h5, h6', h7, hq, hc3, hi, hcl]
    exact hexit _ (by simp [h0]) (by simp [h3]) (by simp [h4]) (by simp [h5]) (by simp [h6'])
  | succ j ih =>
    intro i φ hj h0 h3 h4 h5 h6 h7
    have hi : (i : Int) < x.length := by omega
    have hil : i < x.length := by omega
    obtain ⟨e, he⟩ : ∃ e, x[i]? = some e := ⟨x[i], List.getElem?_eq_getElem hil⟩
    have hmem : e ∈ x := List.mem_of_getElem? he
    have hrow : (Ex.rows x)[i]? = some e.cells := by rw [Ex.rows_eq, List.getElem?_map, he]; rfl
    have hcl : (Ex.rows x).length = x.length := by rw [Ex.rows_eq]; simp
    have hck : (Ex.rows (x.take i)).length = i := by rw [Ex.rows_eq]; simp; omega
    have hnext : Ex.rows (x.take i) ++ [e.cells] = Ex.rows (x.take (i + 1)) := by
      rw [Ex.rows_eq, Ex.rows_eq, List.take_add_one, he]; simp
    have hw : IntKind.i64.wrap ((i : Int) + 1) = ((i + 1 : Nat) : Int) := by rw [w64 (by omega) (by omega)]; rfl
    have hb : 2 * (i + 1) * 56 ≤ 281474976710656 := by omega
    have hcall := hx _ hmem
    unfold CeOK at hcall
    obtain ⟨eop, em, es, ex⟩ := e
    simp only [Ex.cells] at hrow hnext hcall
    rw [l_flotsamref16_CopyStmts_0, M_loop, ← l_flotsamref16_CopyStmts_0]
    simp [b_flotsamref16_CopyStmts_0, h5, h6, h7, hq, hc3, hi, hcl, hrow, hcall, hck, lt_flotsamref16_CopyExpr, hnext, hw, hb]
    refine ih (i + 1) _ (by omega) ?_ ?_ ?_ ?_ ?_ ?_ <;> simp [h0, h3, h4, h5]

theorem CopyS_loop (l : List Sm) (hl : l.length ≤ 20000) (hf : ∀ e ∈ l, (e.es.length ≤ 20000 ∧ ∀ x ∈ e.es, CeOK x) ∧ CsOK e.bd ∧ CsOK e.el) (Q : Option (V × Heap) → Prop) (k : List Item)
    (hexit : ∀ φ' K, Fr.get φ' 3 = .own 7 (Sm.rows l) → Q (M (eval tbl noExt) k φ' K)) :
    ∀ (j i : Nat) (φ : Fr) (K : Heap), i + j = l.length → Fr.get φ 0 = .sl 7 (Sm.rows l) → Fr.get φ 3 = .own 7 (Sm.rows (l.take i)) → Fr.get φ 4 = .int .i64 i →
      Q (M (eval tbl noExt) (.code l_flotsamref16_CopyStmts_1 :: .blk 0 :: k) φ K) := by
  intro j
  induction j with
  | zero =>
    intro i φ K hj h0 h3 h4
    have hi : ¬ ((i : Int) < l.length) := by omega
    have h3' : Fr.get φ 3 = .own 7 (Sm.rows l) := by rw [h3, List.take_of_length_le (by omega)]
    have hcl : (Sm.rows l).length = l.length := by rw [Sm.rows_eq]; simp
    rw [l_flotsamref16_CopyStmts_1, M_loop, ← l_flotsamref16_CopyStmts_1]
    simp [b_flotsamref16_CopyStmts_1, h0, h3', h4, hi, hcl]
    exact hexit _ _ (by simp [h3'])
  | succ j ih =>
    intro i φ K hj h0 h3 h4
    have hi : (i : Int) < l.length := by omega
    have hil : i < l.length := by omega
    obtain ⟨e, he⟩ : ∃ e, l[i]? = some e := ⟨l[i], List.getElem?_eq_getElem hil⟩
    have hmem : e ∈ l := List.mem_of_getElem? he
    have hrow : (Sm.rows l)[i]? = some e.cells := by rw [Sm.rows_eq, List.getElem?_map, he]; rfl
    have hcl : (Sm.rows l).length = l.length := by rw [Sm.rows_eq]; simp
    have hck : (Sm.rows (l.take i)).length = i := by rw [Sm.rows_eq]; simp; omega
    have hnext : Sm.rows (l.take i) ++ [e.cells] = Sm.rows (l.take (i + 1)) := by
      rw [Sm.rows_eq, Sm.rows_eq, List.take_add_one, he]; simp
    have hw : IntKind.i64.wrap ((i : Int) + 1) = ((i + 1 : Nat) : Int) := by rw [w64 (by omega) (by omega)]; rfl
    have hb : 2 * (i + 1) * 112 ≤ 281474976710656 := by omega
    obtain ⟨⟨hxl, hx⟩, hbo, hco⟩ := hf _ hmem
    unfold CsOK at hbo hco
    obtain ⟨op, s, m, x, b, c, g⟩ := e
    simp only [Sm.cells, Sm.es, Sm.bd, Sm.el] at hrow hnext hxl hx hbo hco
    rw [l_flotsamref16_CopyStmts_1, M_loop, ← l_flotsamref16_CopyStmts_1]
    simp [b_flotsamref16_CopyStmts_1, h0, h3, h4, hi, hcl, hrow, get0, set0]
    refine CopyS_inner _ K.length _ (get0 K _ []) x rfl hxl hx (.sl 7 (Sm.rows l)) (.own 7 (Sm.rows (l.take i))) (.int .i64 i) Q _ (fun φ' g0 g3 g4 g5 g6 => ?_) x.length 0 _ (by omega) (by simp [h0]) (by simp [h3]) (by simp [h4]) (by simp) (by simp [Ex.rows]) (by simp)
    simp [r_flotsamref16_CopyStmts_0, r_flotsamref16_CopyStmts_1, g0, g3, g4, g5, g6, get0, set0, hbo, hco, hck, hb, hnext, hw, lt_flotsamref16_CopyStmts]
    refine ih (i + 1) _ _ (by omega) ?_ ?_ ?_ <;> simp [g0]

theorem CopyS_eq : ∀ (n : Nat) (l : List Sm), Sm.sizes l ≤ n → n ≤ 20000 → CsOK l := by
  intro n
  induction n with
  | zero =>
    intro l h hn
    have := Sm.sizes_ge l
    obtain rfl : l = [] := List.length_eq_zero_iff.1 (by omega)
    unfold CsOK
    rw [eval_M rfl rfl t_flotsamref16_CopyStmts rfl]
    simp [c_flotsamref16_CopyStmts]
    refine CopyS_loop [] (by simp) (fun e he => by simp at he) (fun o => o = _) _ (fun φ' K h3 => ?_) 0 0 _ _ rfl ?_ ?_ ?_
    · simp [r_flotsamref16_CopyStmts_2, h3]
    all_goals simp [Sm.rows]
  | succ n ih =>
    intro l h hn
    have hl := Sm.sizes_ge l
    unfold CsOK
    rw [eval_M rfl rfl t_flotsamref16_CopyStmts rfl]
    simp [c_flotsamref16_CopyStmts]
    refine CopyS_loop l (by omega) (fun e he => ?_) (fun o => o = _) _ (fun φ' K h3 => ?_) l.length 0 _ _ (by omega) ?_ ?_ ?_
    · have hm := Sm.sizes_mem he
      obtain ⟨op, s, m, x, b, c, g⟩ := e
      simp only [Sm.size] at hm
      have := Ex.sizes_ge x
      exact ⟨⟨by simp only [Sm.es]; omega, fun y hy => CopyExpr_eq 20000 y (by have := Ex.sizes_mem hy; simp only [Sm.es] at *; omega) (Nat.le_refl _)⟩, ih b (by omega) (by omega), ih c (by omega) (by omega)⟩
    · simp [r_flotsamref16_CopyStmts_2, h3]
    all_goals simp [Sm.rows]

end Go.AM.Spec

namespace Go.AM.Spec
set_option linter.unusedVariables false
set_option linter.unusedSimpArgs false
set_option maxHeartbeats 2000000
set_option maxRecDepth 10000

theorem copy0 (p : Pg) (hsz : p.size ≤ 20000) (z : List V) (k : List Item) (Q : Option (V × Heap) → Prop)
    (he : ∀ φ, Fr.get φ 1 = .ptr 0 0 → Fr.get φ 2 = .ptr 1 0 → Fr.get φ 3 = .ptr 2 0 → Q (M (eval tbl noExt) k φ [some p.cells, some z, some [.own 2 p.pcells, .own 7 [], .own 7 [], .own 5 []]])) :
    ∀ (j i : Nat) (φ : Fr), i + j = p.procs.length → Fr.get φ 1 = .ptr 0 0 → Fr.get φ 2 = .ptr 1 0 → Fr.get φ 3 = .ptr 2 0 → Fr.get φ 4 = .int .i64 i →
      Q (M (eval tbl noExt) (.code l_flotsamref16_Copy_0 :: .blk 0 :: k) φ [some p.cells, some z, some [.own 2 (p.pcells.take i), .own 7 [], .own 7 [], .own 5 []]]) := by
  have hpc : p.cells = [.sl 2 p.pcells, .sl 7 (Sm.rows p.main), .sl 7 (Sm.rows p.recover), .sl 5 p.ocells] := rfl
  have hpl := p.pcells_len
  have hs := p.size_eq
  intro j
  induction j with
  | zero =>
    intro i φ hj h1 h2 h3 h4
    have hi : ¬ ((i : Int) < p.procs.length) := by omega
    have hi' : ¬ (i < p.procs.length) := by omega
    have ht : p.pcells.take i = p.pcells := List.take_of_length_le (by omega)
    rw [ht]
    rw [l_flotsamref16_Copy_0, M_loop, ← l_flotsamref16_Copy_0]
    have := fun φ a b c => he φ a b c
    rw [hpc] at this ⊢
    simp [b_flotsamref16_Copy_0, h1, h2, h3, h4, hi, hi', hpl]
    refine this _ ?_ ?_ ?_
    all_goals simp [h1, h2, h3]
  | succ j ih =>
    intro i φ hj h1 h2 h3 h4
    have hi : (i : Int) < p.procs.length := by omega
    have hil : i < p.procs.length := by omega
    obtain ⟨e, hee⟩ : ∃ e, p.procs[i]? = some e := ⟨_, List.getElem?_eq_getElem hil⟩
    have hrow := Pg.prow hee
    have hw : IntKind.i64.wrap ((i : Int) + 1) = ((i + 1 : Nat) : Int) := by rw [w64 (by omega) (by omega)]; rfl
    have hes : Sm.sizes e.2 ≤ 20000 := by
      have hm : e.2 ∈ p.bodies := by simp only [Pg.bodies, List.mem_map]; exact ⟨e, List.mem_of_getElem? hee, rfl⟩
      have := sizes_flatten hm
      omega
    have hcall := CopyS_eq 20000 e.2 hes (Nat.le_refl _)
    unfold CsOK at hcall
    have hti : (p.pcells.take i).length = i := by rw [List.length_take]; omega
    have hnext : p.pcells.take i ++ [[.str e.1, .sl 7 (Sm.rows e.2)]] = p.pcells.take (i + 1) := by
      rw [List.take_add_one, hrow]; rfl
    have hrow' : ∀ h, p.pcells[i]'h = [.str e.1, .sl 7 (Sm.rows e.2)] := fun h => by rw [List.getElem?_eq_getElem h] at hrow; exact Option.some.inj hrow
    have hb : 2 * (i + 1) * 40 ≤ 281474976710656 := by omega
    have hih := ih (i + 1)
    rw [← hnext] at hih
    generalize p.pcells.take i = T at *
    rw [l_flotsamref16_Copy_0, M_loop, ← l_flotsamref16_Copy_0]
    rw [hpc] at hih ⊢
    simp [b_flotsamref16_Copy_0, h1, h2, h3, h4, hi, hil, hpl, hrow, hrow', hcall, hti, hb, hw, lt_flotsamref16_CopyStmts]
    refine hih _ (by omega) ?_ ?_ ?_ ?_
    all_goals simp [h1, h2, h3]

theorem copy1 (p : Pg) (hsz : p.size ≤ 20000) (z : List V) (u0 u1 u2 : V) (k : List Item) (Q : Option (V × Heap) → Prop)
    (he : ∀ φ, Fr.get φ 2 = .ptr 1 0 → Fr.get φ 3 = .ptr 2 0 → Q (M (eval tbl noExt) k φ [some p.cells, some z, some [u0, u1, u2, .own 5 p.ocells]])) :
    ∀ (j i : Nat) (φ : Fr), i + j = p.oracles.length → Fr.get φ 1 = .ptr 0 0 → Fr.get φ 2 = .ptr 1 0 → Fr.get φ 3 = .ptr 2 0 → Fr.get φ 5 = .int .i64 i →
      Q (M (eval tbl noExt) (.code l_flotsamref16_Copy_1 :: .blk 2 :: k) φ [some p.cells, some z, some [u0, u1, u2, .own 5 (p.ocells.take i)]]) := by
  have hpc : p.cells = [.sl 2 p.pcells, .sl 7 (Sm.rows p.main), .sl 7 (Sm.rows p.recover), .sl 5 p.ocells] := rfl
  have hpl := p.ocells_len
  have hs := p.size_eq
  intro j
  induction j with
  | zero =>
    intro i φ hj h1 h2 h3 h4
    have hi : ¬ ((i : Int) < p.oracles.length) := by omega
    have hi' : ¬ (i < p.oracles.length) := by omega
    have ht : p.ocells.take i = p.ocells := List.take_of_length_le (by omega)
    rw [ht]
    rw [l_flotsamref16_Copy_1, M_loop, ← l_flotsamref16_Copy_1]
    have := fun φ b c => he φ b c
    rw [hpc] at this ⊢
    simp [b_flotsamref16_Copy_1, h1, h2, h3, h4, hi, hi', hpl]
    refine this _ ?_ ?_
    all_goals simp [h1, h2, h3]
  | succ j ih =>
    intro i φ hj h1 h2 h3 h4
    have hi : (i : Int) < p.oracles.length := by omega
    have hil : i < p.oracles.length := by omega
    obtain ⟨e, hee⟩ : ∃ e, p.oracles[i]? = some e := ⟨_, List.getElem?_eq_getElem hil⟩
    have hrow := Pg.orow hee
    have hw : IntKind.i64.wrap ((i : Int) + 1) = ((i + 1 : Nat) : Int) := by rw [w64 (by omega) (by omega)]; rfl
    have hcall := CopyExpr_eq 20000 e.2 (by
      have hm : e.2 ∈ p.exprs := by simp only [Pg.exprs, List.mem_map]; exact ⟨e, List.mem_of_getElem? hee, rfl⟩
      have := Ex.sizes_mem hm
      omega) (Nat.le_refl _)
    unfold CeOK at hcall
    have hti : (p.ocells.take i).length = i := by rw [List.length_take]; omega
    obtain ⟨nm, eop, em, es, ex⟩ := e
    simp only [Ex.cells] at hrow hcall
    have hnext : p.ocells.take i ++ [[.str nm, .int .i64 eop, .int .i64 em, .str es, .sl 4 (Ex.rows ex)]] = p.ocells.take (i + 1) := by
      rw [List.take_add_one, hrow]; rfl
    have hrow' : ∀ h, p.ocells[i]'h = [.str nm, .int .i64 eop, .int .i64 em, .str es, .sl 4 (Ex.rows ex)] := fun h => by rw [List.getElem?_eq_getElem h] at hrow; exact Option.some.inj hrow
    have hb : 2 * (i + 1) * 72 ≤ 281474976710656 := by omega
    have hih := ih (i + 1)
    rw [← hnext] at hih
    generalize p.ocells.take i = T at *
    rw [l_flotsamref16_Copy_1, M_loop, ← l_flotsamref16_Copy_1]
    rw [hpc] at hih ⊢
    simp [b_flotsamref16_Copy_1, h1, h2, h3, h4, hi, hil, hpl, hrow, hrow', hcall, hti, hb, hw, lt_flotsamref16_CopyExpr]
    refine hih _ (by omega) ?_ ?_ ?_ ?_
    all_goals simp [h1, h2, h3]

theorem Copy_eq (p : Pg) (hsz : p.size ≤ 20000) : eval tbl noExt n_flotsamref16_Copy [.agg p.cells] [] = some (.agg p.cells, []) := by
  have hpc : p.cells = [.sl 2 p.pcells, .sl 7 (Sm.rows p.main), .sl 7 (Sm.rows p.recover), .sl 5 p.ocells] := rfl
  have hs := p.size_eq
  have hm := CopyS_eq 20000 p.main (by omega) (Nat.le_refl _)
  have hr := CopyS_eq 20000 p.recover (by omega) (Nat.le_refl _)
  unfold CsOK at hm hr
  have l0 := fun z k Q he φ h1 h2 h3 h4 => copy0 p hsz z k Q he p.procs.length 0 φ (by omega) h1 h2 h3 h4
  have l1 := fun z u0 u1 u2 k Q he φ h1 h2 h3 h4 => copy1 p hsz z u0 u1 u2 k Q he p.oracles.length 0 φ (by omega) h1 h2 h3 h4
  rw [eval_M rfl rfl t_flotsamref16_Copy rfl]
  simp [c_flotsamref16_Copy]
  refine l0 _ _ (fun x => x = some (.agg p.cells, [])) ?_ _ ?_ ?_ ?_ ?_
  rotate_left
  all_goals first | (simp; done) | skip
  intro φ h1 h2 h3
  have l1' := fun z u0 u1 u2 k Q he φ h1 h2 h3 h4 => l1 z u0 u1 u2 k Q he φ h1 h2 h3 h4
  rw [hpc] at l1' ⊢
  simp [r_flotsamref16_Copy_1, h1, h2, h3, hm, hr, lt_flotsamref16_CopyStmts]
  refine l1' _ _ _ _ _ (fun x => x = some (.agg [.sl 2 p.pcells, .sl 7 (Sm.rows p.main), .sl 7 (Sm.rows p.recover), .sl 5 p.ocells], [])) ?_ _ ?_ ?_ ?_ ?_
  rotate_left
  all_goals first | (simp [h1, h2, h3]; done) | skip
  intro φ h2 h3
  simp [r_flotsamref16_Copy_0, h2, h3]

end Go.AM.Spec

namespace Go.AM.Spec
set_option linter.unusedVariables false
set_option linter.unusedSimpArgs false
set_option maxHeartbeats 2000000
set_option maxRecDepth 10000

theorem eqL_drop {α : Type} (f : α → α → Bool) {l m : List α} {i : Nat} {x y : α} (hx : l[i]? = some x) (hy : m[i]? = some y) : eqL f (l.drop i) (m.drop i) = (f x y && eqL f (l.drop (i + 1)) (m.drop (i + 1))) := by
  have h1 := (List.getElem?_eq_some_iff.1 hx)
  have h2 := (List.getElem?_eq_some_iff.1 hy)
  obtain ⟨h1, rfl⟩ := h1
  obtain ⟨h2, rfl⟩ := h2
  rw [List.drop_eq_getElem_cons h1, List.drop_eq_getElem_cons h2, eqL]

theorem rs_oracles (p q : Pg) (hl : p.oracles.length = q.oracles.length) (hol : p.oracles.length ≤ 20000) (ho : ∀ x ∈ p.oracles, x.2.size ≤ 20000) (Q : Option (V × Heap) → Prop) (k : List Item)
    (hex : ∀ φ, Q (M (eval tbl noExt) k φ [some p.cells, some q.cells]) ∨ eqL orSame p.oracles q.oracles = false) (hret : ∀ φ, eqL orSame p.oracles q.oracles = false → Fr.get φ 4 = .bool false → Q (retK (.blk 2 :: k) φ [some p.cells, some q.cells])) :
    ∀ (j i : Nat) (φ : Fr), i + j = p.oracles.length → eqL orSame p.oracles q.oracles = eqL orSame (p.oracles.drop i) (q.oracles.drop i) → Fr.get φ 2 = .ptr 0 0 → Fr.get φ 3 = .ptr 1 0 → Fr.get φ 6 = .int .i64 i →
      Q (M (eval tbl noExt) (.code l_flotsamref16_Same_1 :: .blk 2 :: k) φ [some p.cells, some q.cells]) := by
  have hpc : p.cells = [.sl 2 p.pcells, .sl 7 (Sm.rows p.main), .sl 7 (Sm.rows p.recover), .sl 5 p.ocells] := rfl
  have hqc : q.cells = [.sl 2 q.pcells, .sl 7 (Sm.rows q.main), .sl 7 (Sm.rows q.recover), .sl 5 q.ocells] := rfl
  have hpl := p.ocells_len
  have hql := q.ocells_len
  intro j
  induction j with
  | zero =>
    intro i φ hj he h2 h3 h6
    have hi : ¬ ((i : Int) < p.oracles.length) := by omega
    have hi' : ¬ (i < p.oracles.length) := by omega
    rw [List.drop_of_length_le (by omega), List.drop_of_length_le (by omega)] at he
    have hx := fun φ => (hex φ).resolve_right (by rw [he]; simp [eqL])
    rw [l_flotsamref16_Same_1, M_loop, ← l_flotsamref16_Same_1]
    rw [hpc, hqc] at hx ⊢
    simp [b_flotsamref16_Same_1, h2, h3, h6, hi, hi', hpl]
    exact hx _
  | succ j ih =>
    intro i φ hj he h2 h3 h6
    have hi : (i : Int) < p.oracles.length := by omega
    have hil : i < p.oracles.length := by omega
    have hiq : (i : Int) < q.oracles.length := by omega
    have hiql : i < q.oracles.length := by omega
    obtain ⟨x, hx, hmem, _⟩ := at_some (l := p.oracles) (i := i) hil
    obtain ⟨y, hy, _, _⟩ := at_some (l := q.oracles) (i := i) hiql
    have hr := Pg.orow hx
    have hs := Pg.orow hy
    have hw : IntKind.i64.wrap ((i : Int) + 1) = ((i + 1 : Nat) : Int) := by rw [w64 (by omega) (by omega)]; rfl
    rw [eqL_drop orSame hx hy] at he
    obtain ⟨nm, e⟩ := x
    obtain ⟨nm2, e2⟩ := y
    have hcall := SameExpr_eq 20000 e e2 (ho _ hmem) (Nat.le_refl _)
    obtain ⟨c0, c1, c2, c3, hc⟩ := e.cells_shape
    obtain ⟨d0, d1, d2, d3, hd⟩ := e2.cells_shape
    simp only [hc, hd] at hr hs hcall
    have hr' : ∀ h, p.ocells[i]'h = [.str nm, .int .i64 c0, .int .i64 c1, .str c2, .sl 4 c3] := fun h => by rw [List.getElem?_eq_getElem h] at hr; exact Option.some.inj hr
    have hs' : ∀ h, q.ocells[i]'h = [.str nm2, .int .i64 d0, .int .i64 d1, .str d2, .sl 4 d3] := fun h => by rw [List.getElem?_eq_getElem h] at hs; exact Option.some.inj hs
    have hn := ih (i + 1)
    rw [l_flotsamref16_Same_1, M_loop, ← l_flotsamref16_Same_1]
    rw [hpc, hqc] at hn hret ⊢
    simp only [orSame] at he
    simp only [retK_blk] at hret
    by_cases hnm : nm = nm2
    · subst hnm
      cases hsm : e.same e2 with
      | true =>
        rw [hsm] at hcall he
        simp only [beq_self_eq_true, Bool.true_and] at he
        simp [b_flotsamref16_Same_1, h2, h3, h6, hi, hil, hiq, hiql, hpl, hql, hr, hs, hr', hs', hcall, hw, lt_flotsamref16_SameExpr]
        exact hn _ (by omega) he (by simp [h2]) (by simp [h3]) (by simp)
      | false =>
        rw [hsm] at hcall he
        simp only [Bool.and_false, Bool.false_and] at he
        simp [b_flotsamref16_Same_1, h2, h3, h6, hi, hil, hiq, hiql, hpl, hql, hr, hs, hr', hs', hcall, hw, lt_flotsamref16_SameExpr]
        exact hret _ he (by simp)
    · have hb : (nm == nm2) = false := by simpa using hnm
      rw [hb] at he
      simp only [Bool.false_and] at he
      simp [b_flotsamref16_Same_1, h2, h3, h6, hi, hil, hiq, hiql, hpl, hql, hr, hs, hr', hs', hnm]
      exact hret _ he (by simp)

theorem rs_procs (p q : Pg) (hl : p.procs.length = q.procs.length) (hol : p.procs.length ≤ 20000) (ho : ∀ x ∈ p.procs, Sm.sizes x.2 ≤ 20000) (Q : Option (V × Heap) → Prop) (k : List Item)
    (hex : ∀ φ, Fr.get φ 2 = .ptr 0 0 → Fr.get φ 3 = .ptr 1 0 → Q (M (eval tbl noExt) k φ [some p.cells, some q.cells]) ∨ eqL prSame p.procs q.procs = false) (hret : ∀ φ, eqL prSame p.procs q.procs = false → Fr.get φ 4 = .bool false → Q (retK (.blk 0 :: k) φ [some p.cells, some q.cells])) :
    ∀ (j i : Nat) (φ : Fr), i + j = p.procs.length → eqL prSame p.procs q.procs = eqL prSame (p.procs.drop i) (q.procs.drop i) → Fr.get φ 2 = .ptr 0 0 → Fr.get φ 3 = .ptr 1 0 → Fr.get φ 5 = .int .i64 i →
      Q (M (eval tbl noExt) (.code l_flotsamref16_Same_0 :: .blk 0 :: k) φ [some p.cells, some q.cells]) := by
  have hpc : p.cells = [.sl 2 p.pcells, .sl 7 (Sm.rows p.main), .sl 7 (Sm.rows p.recover), .sl 5 p.ocells] := rfl
  have hqc : q.cells = [.sl 2 q.pcells, .sl 7 (Sm.rows q.main), .sl 7 (Sm.rows q.recover), .sl 5 q.ocells] := rfl
  have hpl := p.pcells_len
  have hql := q.pcells_len
  intro j
  induction j with
  | zero =>
    intro i φ hj he h2 h3 h6
    have hi : ¬ ((i : Int) < p.procs.length) := by omega
    have hi' : ¬ (i < p.procs.length) := by omega
    rw [List.drop_of_length_le (by omega), List.drop_of_length_le (by omega)] at he
    have hx := fun φ a b => (hex φ a b).resolve_right (by rw [he]; simp [eqL])
    rw [l_flotsamref16_Same_0, M_loop, ← l_flotsamref16_Same_0]
    rw [hpc, hqc] at hx ⊢
    simp [b_flotsamref16_Same_0, h2, h3, h6, hi, hi', hpl]
    exact hx _ (by simp [h2]) (by simp [h3])
  | succ j ih =>
    intro i φ hj he h2 h3 h6
    have hi : (i : Int) < p.procs.length := by omega
    have hil : i < p.procs.length := by omega
    have hiq : (i : Int) < q.procs.length := by omega
    have hiql : i < q.procs.length := by omega
    obtain ⟨x, hx, hmem, _⟩ := at_some (l := p.procs) (i := i) hil
    obtain ⟨y, hy, _, _⟩ := at_some (l := q.procs) (i := i) hiql
    have hr := Pg.prow hx
    have hs := Pg.prow hy
    have hw : IntKind.i64.wrap ((i : Int) + 1) = ((i + 1 : Nat) : Int) := by rw [w64 (by omega) (by omega)]; rfl
    rw [eqL_drop prSame hx hy] at he
    obtain ⟨nm, e⟩ := x
    obtain ⟨nm2, e2⟩ := y
    have hes := ho _ hmem
    have hcall := SameStmts_eq e e2 (by have := Sm.sizes_ge e; dsimp only at hes; omega) (fun y hy => by have := Sm.sizes_mem hy; dsimp only at hes; omega)
    simp only at hr hs
    have hr' : ∀ h, p.pcells[i]'h = [.str nm, .sl 7 (Sm.rows e)] := fun h => by rw [List.getElem?_eq_getElem h] at hr; exact Option.some.inj hr
    have hs' : ∀ h, q.pcells[i]'h = [.str nm2, .sl 7 (Sm.rows e2)] := fun h => by rw [List.getElem?_eq_getElem h] at hs; exact Option.some.inj hs
    have hn := ih (i + 1)
    rw [l_flotsamref16_Same_0, M_loop, ← l_flotsamref16_Same_0]
    rw [hpc, hqc] at hn hret ⊢
    simp only [prSame] at he
    simp only [retK_blk] at hret
    by_cases hnm : nm = nm2
    · subst hnm
      cases hsm : Sm.sames e e2 with
      | true =>
        rw [hsm] at hcall he
        simp only [beq_self_eq_true, Bool.true_and] at he
        simp [b_flotsamref16_Same_0, h2, h3, h6, hi, hil, hiq, hiql, hpl, hql, hr, hs, hr', hs', hcall, hw, lt_flotsamref16_SameStmts]
        exact hn _ (by omega) he (by simp [h2]) (by simp [h3]) (by simp)
      | false =>
        rw [hsm] at hcall he
        simp only [Bool.and_false, Bool.false_and] at he
        simp [b_flotsamref16_Same_0, h2, h3, h6, hi, hil, hiq, hiql, hpl, hql, hr, hs, hr', hs', hcall, hw, lt_flotsamref16_SameStmts]
        exact hret _ he (by simp)
    · have hb : (nm == nm2) = false := by simpa using hnm
      rw [hb] at he
      simp only [Bool.false_and] at he
      simp [b_flotsamref16_Same_0, h2, h3, h6, hi, hil, hiq, hiql, hpl, hql, hr, hs, hr', hs', hnm]
      exact hret _ he (by simp)

theorem refSame2 (p q : Pg) (h : p.size ≤ 20000) : eval tbl noExt n_flotsamref16_Same [.agg p.cells, .agg q.cells] [] = some (.bool (p.same q), []) := by
  have hpc : p.cells = [.sl 2 p.pcells, .sl 7 (Sm.rows p.main), .sl 7 (Sm.rows p.recover), .sl 5 p.ocells] := rfl
  have hqc : q.cells = [.sl 2 q.pcells, .sl 7 (Sm.rows q.main), .sl 7 (Sm.rows q.recover), .sl 5 q.ocells] := rfl
  obtain ⟨hp, ho, hpl, hol, hm, hr⟩ := p.small h
  have hb : ∀ b c, Sm.sizes b ≤ 20000 → eval tbl noExt n_flotsamref16_SameStmts [.sl 7 (Sm.rows b), .sl 7 (Sm.rows c)] [] = some (.bool (Sm.sames b c), []) := fun b c hb =>
    SameStmts_eq b c (by have := Sm.sizes_ge b; omega) (fun y hy => by have := Sm.sizes_mem hy; omega)
  have h1 := hb p.main q.main hm
  have h2 := hb p.recover q.recover hr
  have e1 := p.pcells_len
  have e2 := q.pcells_len
  have e3 := p.ocells_len
  have e4 := q.ocells_len
  have hsm : p.same q = (eqL prSame p.procs q.procs && Sm.sames p.main q.main && Sm.sames p.recover q.recover && eqL orSame p.oracles q.oracles) := rfl
  rw [eval_M rfl rfl t_flotsamref16_Same rfl]
  by_cases l1 : p.procs.length = q.procs.length
  · by_cases l2 : p.oracles.length = q.oracles.length
    · have l1' : (p.procs.length : Int) = q.procs.length := by omega
      have l2' : (p.oracles.length : Int) = q.oracles.length := by omega
      have L0 := fun k Q hex hret φ g2 g3 g5 => rs_procs p q l1 hpl hp Q k hex hret p.procs.length 0 φ (by omega) rfl g2 g3 g5
      have L1 := fun k Q hex hret φ g2 g3 g5 => rs_oracles p q l2 hol ho Q k hex hret p.oracles.length 0 φ (by omega) rfl g2 g3 g5
      cases hs1 : Sm.sames p.main q.main with
      | false =>
        rw [hs1] at h1 hsm
        simp only [Bool.and_false, Bool.false_and] at hsm
        rw [hsm, hpc, hqc]
        simp [c_flotsamref16_Same, e1, e2, e3, e4, l1, l2, h1, lt_flotsamref16_SameStmts]
      | true =>
        cases hs2 : Sm.sames p.recover q.recover with
        | false =>
          rw [hs2] at h2 hsm
          rw [hs1] at h1
          simp only [Bool.and_false, Bool.false_and] at hsm
          rw [hsm, hpc, hqc]
          simp [c_flotsamref16_Same, e1, e2, e3, e4, l1, l2, h1, h2, lt_flotsamref16_SameStmts]
        | true =>
          rw [hs1] at h1
          rw [hs2] at h2
          rw [hs1, hs2] at hsm
          simp only [Bool.and_true] at hsm
          have key : ∀ φ, Fr.get φ 2 = .ptr 0 0 → Fr.get φ 3 = .ptr 1 0 → Fr.get φ 5 = .int .i64 (0 : Nat) → M (eval tbl noExt) [.code l_flotsamref16_Same_0, .blk 0, .code r_flotsamref16_Same_1, .fin [.t 4] 0] φ [some p.cells, some q.cells] = some (.bool (p.same q), []) := by
            intro φ g2 g3 g5
            refine L0 _ (fun x => x = some (.bool (p.same q), [])) ?_ ?_ φ g2 g3 g5
            · intro φ g2 g3
              cases hE : eqL prSame p.procs q.procs with
              | false => exact .inr rfl
              | true =>
                refine .inl ?_
                rw [hE] at hsm
                simp only [Bool.true_and] at hsm
                rw [hsm]
                simp [r_flotsamref16_Same_1, g2, g3]
                refine L1 _ (fun x => x = some (.bool (eqL orSame p.oracles q.oracles), [])) ?_ ?_ _ ?_ ?_ ?_
                · intro φ
                  cases hO : eqL orSame p.oracles q.oracles with
                  | false => exact .inr rfl
                  | true => exact .inl (by simp [r_flotsamref16_Same_0])
                · intro φ hO g4
                  rw [hO]
                  simp [g4]
                all_goals simp [g2, g3]
            · intro φ hE g4
              rw [hE] at hsm
              simp only [Bool.false_and] at hsm
              rw [hsm]
              simp [g4]
          rw [hpc, hqc] at key ⊢
          simp [c_flotsamref16_Same, e1, e2, e3, e4, l1, l2, h1, h2, lt_flotsamref16_SameStmts]
          exact key _ (by simp) (by simp) (by simp)
    · have l2' : ¬ (p.oracles.length : Int) = q.oracles.length := by omega
      have hz : p.same q = false := by rw [hsm, eqL_len orSame l2]; simp
      rw [hz, hpc, hqc]
      simp [c_flotsamref16_Same, e1, e2, e3, e4, l1, l2, l2']
  · have l1' : ¬ (p.procs.length : Int) = q.procs.length := by omega
    have hz : p.same q = false := by rw [hsm, eqL_len prSame l1]; simp
    rw [hz, hpc, hqc]
    simp [c_flotsamref16_Same, e1, e2, e3, e4, l1, l1']

end Go.AM.Spec

namespace Go.AM.Spec
set_option linter.unusedVariables false
set_option linter.unusedSimpArgs false
set_option maxHeartbeats 4000000
set_option maxRecDepth 10000

/-- A list of one expression that stands in a block of its own. -/
theorem wipe_one (op m : Int) (s : List UInt8) (x : List Ex) (hW : WE x) {v : V} {S : List Nat} {H : Heap} {i : Nat} (hi : H[i]? = some (some [.int .i64 op, .int .i64 m, .str s, v])) (hv : LRep 4 H x.length v S (Ex.reps H x)) (hnd : (i :: S).Nodup) :
    ∃ K, eval tbl noExt (wNo n_flotsamlaw16_wipeExprs) [.ms i 0 1 1] H = some (.tup [], K) ∧ K.length = H.length ∧ ∀ q, q ∉ i :: S → K[q]? = H[q]? := by
  obtain ⟨hni, hS⟩ := List.nodup_cons.1 hnd
  obtain ⟨K1, hE, hl1, hf1⟩ := hW v S H hv hS
  have hi1 : K1[i]? = some (some [.int .i64 op, .int .i64 m, .str s, v]) := by rw [hf1 i hni, hi]
  have hi0' : ∀ h, H[i]'h = some [.int .i64 op, .int .i64 m, .str s, v] := fun h => by rw [List.getElem?_eq_getElem h] at hi; exact Option.some.inj hi
  have hi1' : ∀ h, K1[i]'h = some [.int .i64 op, .int .i64 m, .str s, v] := fun h => by rw [List.getElem?_eq_getElem h] at hi1; exact Option.some.inj hi1
  have hw : IntKind.i64.wrap 1 = 1 := by decide
  have hvv := hv.val
  rw [eval_W tw_flotsamlaw16_wipeExprs rfl]
  refine ⟨K1.set i (some [.int .i64 99, .int .i64 0, .str [], .sl 4 []]), ?_, by rw [List.length_set, hl1], fun q hq => ?_⟩
  · rcases hvv with rfl | ⟨i2, cap2, rfl⟩ <;>
    · simp [c_flotsamlaw16_wipeExprs_w]
      rw [l_flotsamlaw16_wipeExprs_w_0, M_loop, ← l_flotsamlaw16_wipeExprs_w_0]
      simp [b_flotsamlaw16_wipeExprs_w_0, hi, hi1, hi0', hi1', hE, hw]
      rw [l_flotsamlaw16_wipeExprs_w_0, M_loop, ← l_flotsamlaw16_wipeExprs_w_0]
      simp [b_flotsamlaw16_wipeExprs_w_0]
  · simp only [List.mem_cons, not_or] at hq
    rw [set_ne hq.1, hf1 q hq.2]

/-- What stands at the law's variables. -/
def LawSt (i j : Nat) (φ : Fr) : Prop := Fr.get φ 2 = .ptr 0 0 ∧ Fr.get φ 5 = .ptr i 0 ∧ Fr.get φ 6 = .ptr j 0

theorem procs_wipe (i j b n cap : Nat) (hn : n ≤ 20000) (v2 v3 v4 : V) (k : List Item) (Q : Option (V × Heap) → Prop) : ∀ (l : List (List UInt8 × List Sm)), (∀ x ∈ l, WS x.2) → ∀ (t : Nat) (pre : List V) (rows : List (List V)) (S : List Nat) (K : Heap) (junk : List V) (φ : Fr), pre.length = t * 2 → K[b]? = some (some (pre ++ (rows.flatten ++ junk))) → GReps PrR K l rows S → (b :: S).Nodup → i ∉ b :: S →
    t + l.length = n → K[i]? = some (some [.mg 2 b 0 n cap, v2, v3, v4]) → LawSt i j φ → Fr.get φ 7 = .int .i64 t → (∀ φ' K', LawSt i j φ' → K'.length = K.length → (∀ q, q ∉ b :: S → K'[q]? = K[q]?) → Q (M (eval tbl noExt) k φ' K')) → Q (M (eval tbl noExt) (.code l_flotsamlaw16_TreeSames_w_0 :: .blk 0 :: k) φ K)
  | [], hW, t, pre, rows, S, K, junk, φ, hp, hb, hr, hnd, hib, ht, hi, ⟨g2, g5, g6⟩, g7, he => by
    have hlt : ¬ (t : Int) < n := by simp at ht; omega
    have hlt' : ¬ t < n := by simp at ht; omega
    have hi' : ∀ h, K[i]'h = some [.mg 2 b 0 n cap, v2, v3, v4] := fun h => by rw [List.getElem?_eq_getElem h] at hi; exact Option.some.inj hi
    rw [l_flotsamlaw16_TreeSames_w_0, M_loop, ← l_flotsamlaw16_TreeSames_w_0]
    simp [b_flotsamlaw16_TreeSames_w_0, g2, g5, g6, g7, hi, hi', hlt']
    exact he _ _ ⟨by simp [g2], by simp [g5], by simp [g6]⟩ rfl (fun _ _ => rfl)
  | (nm, bd) :: l, hW, t, pre, rows, S, K, junk, φ, hp, hb, hr, hnd, hib, ht, hi, ⟨g2, g5, g6⟩, g7, he => by
    obtain ⟨r, rs, S1, S2, rfl, rfl, ⟨v, rfl, hv⟩, hrs⟩ := hr
    simp only [List.length_cons] at ht
    have hlt : (t : Int) < n := by omega
    have hlt' : t < n := by omega
    have hw : IntKind.i64.wrap ((t : Int) + 1) = ((t + 1 : Nat) : Int) := by rw [w64 (by omega) (by omega)]; rfl
    obtain ⟨hnb, hnd2⟩ := List.nodup_cons.1 hnd
    obtain ⟨hnd3, hnd4, hdis⟩ := List.nodup_append.1 hnd2
    simp only [List.mem_cons, List.mem_append, not_or] at hib
    obtain ⟨K1, hE, hl1, hf1⟩ := hW _ (List.mem_cons_self ..) v S1 K hv hnd3
    have hb0 : K[b]? = some (some (pre ++ ([.str nm, v] ++ (rs.flatten ++ junk)))) := by
      rw [hb]; simp
    have hb1 : K1[b]? = some (some (pre ++ ([.str nm, v] ++ (rs.flatten ++ junk)))) := by
      rw [hf1 b (fun h => hnb (List.mem_append_left _ h)), hb0]
    have hi1 : K1[i]? = some (some [.mg 2 b 0 n cap, v2, v3, v4]) := by rw [hf1 i hib.2.1, hi]
    have hg := mid_get pre [.str nm, v] (rs.flatten ++ junk) 1 (by simp)
    have hP := mid_put [.str [], .sl 7 []] [.str nm, v] pre (rs.flatten ++ junk) rfl
    rw [hp] at hg hP
    have hlen : (pre ++ ([.str nm, v] ++ (rs.flatten ++ junk))).length = t * 2 + 2 + (rs.flatten ++ junk).length := by
      simp only [List.length_append, List.length_cons, List.length_nil, hp]; omega
    have hroom : t * 2 + 2 ≤ t * 2 + 2 + (rs.flatten ++ junk).length := by omega
    have hg3 : (pre ++ ([.str nm, v] ++ (rs.flatten ++ junk)))[t * 2 + 1]? = some v := hg
    have hvv := hv.val
    obtain ⟨C, hC⟩ : ∃ C, C = pre ++ ([.str nm, v] ++ (rs.flatten ++ junk)) := ⟨_, rfl⟩
    rw [← hC] at hb0 hb1 hlen hg3 hP
    have hb0' : ∀ h, K[b]'h = some C := fun h => by rw [List.getElem?_eq_getElem h] at hb0; exact Option.some.inj hb0
    have hb1' : ∀ h, K1[b]'h = some C := fun h => by rw [List.getElem?_eq_getElem h] at hb1; exact Option.some.inj hb1
    have hi0' : ∀ h, K[i]'h = some [.mg 2 b 0 n cap, v2, v3, v4] := fun h => by rw [List.getElem?_eq_getElem h] at hi; exact Option.some.inj hi
    have hi1' : ∀ h, K1[i]'h = some [.mg 2 b 0 n cap, v2, v3, v4] := fun h => by rw [List.getElem?_eq_getElem h] at hi1; exact Option.some.inj hi1
    have hfr : ∀ y, GReps PrR (K1.set b y) l rs S2 := fun y => GReps.frame (R := PrR) (fun _ _ _ _ _ h hS => PrR.frame h hS) hrs fun q hq => by
      have hq1 : q ≠ b := fun e => hnb (by rw [← e]; exact List.mem_append_right _ hq)
      rw [set_ne hq1, hf1 q (fun h => hdis q h q hq rfl)]
    have hih := fun φ' gs g7' => procs_wipe i j b n cap hn v2 v3 v4 k Q l (fun e he => hW e (List.mem_cons_of_mem _ he)) (t + 1) (pre ++ [.str [], .sl 7 []]) rs S2
      (K1.set b (some (pre ++ ([.str [], .sl 7 []] ++ (rs.flatten ++ junk))))) junk φ' (by simp [hp]; omega) (by
        rw [set_eq hb1]; simp) (hfr _)
      (List.nodup_cons.2 ⟨fun h => hnb (List.mem_append_right _ h), hnd4⟩) (by simp only [List.mem_cons, not_or]; exact ⟨hib.1, hib.2.2⟩) (by omega) (by rw [set_ne hib.1, hi1]) gs g7' (fun φ2 K2 hs2 hl2 hf2 => he φ2 K2 hs2 (by rw [hl2, List.length_set, hl1]) fun q hq => by
        rw [hf2 q (fun h => hq (by rcases List.mem_cons.1 h with h | h; exact h ▸ List.mem_cons_self ..; exact List.mem_cons_of_mem _ (List.mem_append_right _ h)))]
        have hq1 : q ≠ b := fun e => hq (by rw [e]; exact List.mem_cons_self ..)
        rw [set_ne hq1, hf1 q (fun h => hq (List.mem_cons_of_mem _ (List.mem_append_left _ h)))])
    rw [l_flotsamlaw16_TreeSames_w_0, M_loop, ← l_flotsamlaw16_TreeSames_w_0]
    rcases hvv with rfl | ⟨i2, cap2, rfl⟩ <;>
    · simp [b_flotsamlaw16_TreeSames_w_0, g2, g5, g6, g7, hlt, hlt', hw, hb0, hb1, hb0', hb1', hi, hi1, hi0', hi1', hg3, hE, hlen, hroom, hP]
      refine hih _ ⟨?_, ?_, ?_⟩ ?_
      all_goals simp [g2, g5, g6]

theorem mid_row (pre cs post : List V) : ((pre ++ (cs ++ post)).drop pre.length).take cs.length = cs := by
  rw [List.drop_left, List.take_left]

theorem oracles_wipe (i j b n cap : Nat) (hn : n ≤ 20000) (v1 v2 v3 : V) (k : List Item) (Q : Option (V × Heap) → Prop) : ∀ (l : List (List UInt8 × Ex)), (∀ x ∈ l, WE x.2.subs) → ∀ (t : Nat) (pre : List V) (rows : List (List V)) (S : List Nat) (K : Heap) (junk : List V) (φ : Fr), pre.length = t * 5 → K[b]? = some (some (pre ++ (rows.flatten ++ junk))) → GReps OrR K l rows S → (b :: S).Nodup → i ∉ b :: S → (∀ q ∈ b :: S, q < K.length) →
    t + l.length = n → K[i]? = some (some [v1, v2, v3, .mg 5 b 0 n cap]) → LawSt i j φ → Fr.get φ 8 = .int .i64 t → (∀ φ' K', LawSt i j φ' → (∀ q, q < K.length → q ∉ b :: S → K'[q]? = K[q]?) → Q (M (eval tbl noExt) k φ' K')) → Q (M (eval tbl noExt) (.code l_flotsamlaw16_TreeSames_w_1 :: .blk 2 :: k) φ K)
  | [], hW, t, pre, rows, S, K, junk, φ, hp, hb, hr, hnd, hib, hbd, ht, hi, ⟨g2, g5, g6⟩, g7, he => by
    have hlt : ¬ (t : Int) < n := by simp at ht; omega
    have hlt' : ¬ t < n := by simp at ht; omega
    have hi' : ∀ h, K[i]'h = some [v1, v2, v3, .mg 5 b 0 n cap] := fun h => by rw [List.getElem?_eq_getElem h] at hi; exact Option.some.inj hi
    rw [l_flotsamlaw16_TreeSames_w_1, M_loop, ← l_flotsamlaw16_TreeSames_w_1]
    simp [b_flotsamlaw16_TreeSames_w_1, g2, g5, g6, g7, hi, hi', hlt']
    exact he _ _ ⟨by simp [g2], by simp [g5], by simp [g6]⟩ (fun _ _ _ => rfl)
  | (nm, .mk op m s x) :: l, hW, t, pre, rows, S, K, junk, φ, hp, hb, hr, hnd, hib, hbd, ht, hi, ⟨g2, g5, g6⟩, g7, he => by
    obtain ⟨r, rs, S1, S2, rfl, rfl, ⟨c, rfl, v, rfl, hv⟩, hrs⟩ := hr
    simp only [List.length_cons] at ht
    have hlt : (t : Int) < n := by omega
    have hlt' : t < n := by omega
    have hw : IntKind.i64.wrap ((t : Int) + 1) = ((t + 1 : Nat) : Int) := by rw [w64 (by omega) (by omega)]; rfl
    obtain ⟨hnb, hnd2⟩ := List.nodup_cons.1 hnd
    obtain ⟨hnd3, hnd4, hdis⟩ := List.nodup_append.1 hnd2
    simp only [List.mem_cons, List.mem_append, not_or] at hib
    have hbl : b < K.length := hbd b (List.mem_cons_self ..)
    have hil : i < K.length := (List.getElem?_eq_some_iff.1 hi).1
    have h1l : ∀ q ∈ S1, q < K.length := fun q hq => hbd q (List.mem_cons_of_mem _ (List.mem_append_left _ hq))
    have h2l : ∀ q ∈ S2, q < K.length := fun q hq => hbd q (List.mem_cons_of_mem _ (List.mem_append_right _ hq))
    have happ : ∀ (y : Option (List V)) q, q < K.length → (K ++ [y])[q]? = K[q]? := fun y q hq => List.getElem?_append_left hq
    have hvy : ∀ y, LRep 4 (K ++ [y]) x.length v S1 (Ex.reps (K ++ [y]) x) := fun y => hv.frame (fun q hq => happ y q (h1l q hq)) fun rows S' hs h => Ex.reps_frame h fun q hq => happ y q (h1l q (hs q hq))
    obtain ⟨K1, hE, hl1, hf1⟩ := wipe_one op m s x (hW _ (List.mem_cons_self ..)) (H := K ++ [some [.int .i64 op, .int .i64 m, .str s, v]]) (i := K.length) (by simp) (hvy _) (List.nodup_cons.2 ⟨fun h => absurd (h1l _ h) (Nat.lt_irrefl _), hnd3⟩)
    have hf1' : ∀ q, q < K.length → q ∉ S1 → K1[q]? = K[q]? := fun q hq h => by
      rw [hf1 q (by simp only [List.mem_cons, not_or]; exact ⟨by omega, h⟩), happ _ q hq]
    have hl1' : K1.length = K.length + 1 := by rw [hl1]; simp
    have hb0 : K[b]? = some (some (pre ++ ([.str nm, .int .i64 op, .int .i64 m, .str s, v] ++ (rs.flatten ++ junk)))) := by
      rw [hb]; simp
    have hb1 : K1[b]? = some (some (pre ++ ([.str nm, .int .i64 op, .int .i64 m, .str s, v] ++ (rs.flatten ++ junk)))) := by
      rw [hf1' b hbl (fun h => hnb (List.mem_append_left _ h)), hb0]
    have hi1 : K1[i]? = some (some [v1, v2, v3, .mg 5 b 0 n cap]) := by rw [hf1' i hil hib.2.1, hi]
    have hg : ((pre ++ ([.str nm, .int .i64 op, .int .i64 m, .str s, v] ++ (rs.flatten ++ junk))).drop (t * 5 + 1)).take 4 = [.int .i64 op, .int .i64 m, .str s, v] := by
      have := mid_row (pre ++ [.str nm]) [.int .i64 op, .int .i64 m, .str s, v] (rs.flatten ++ junk)
      simpa [hp] using this
    have hP := mid_put [.str [], .int .i64 0, .int .i64 0, .str [], .sl 4 []] [.str nm, .int .i64 op, .int .i64 m, .str s, v] pre (rs.flatten ++ junk) rfl
    rw [hp] at hP
    have hlen : (pre ++ ([.str nm, .int .i64 op, .int .i64 m, .str s, v] ++ (rs.flatten ++ junk))).length = t * 5 + 5 + (rs.flatten ++ junk).length := by
      simp only [List.length_append, List.length_cons, List.length_nil, hp]; omega
    have hroom : t * 5 + 5 ≤ t * 5 + 5 + (rs.flatten ++ junk).length := by omega
    have hroom1 : t * 5 + 1 + 4 ≤ t * 5 + 5 + (rs.flatten ++ junk).length := by omega
    have hvv := hv.val
    obtain ⟨C, hC⟩ : ∃ C, C = pre ++ ([.str nm, .int .i64 op, .int .i64 m, .str s, v] ++ (rs.flatten ++ junk)) := ⟨_, rfl⟩
    rw [← hC] at hb0 hb1 hlen hg hP
    have hb0' : ∀ h, K[b]'h = some C := fun h => by rw [List.getElem?_eq_getElem h] at hb0; exact Option.some.inj hb0
    have hb1' : ∀ h, K1[b]'h = some C := fun h => by rw [List.getElem?_eq_getElem h] at hb1; exact Option.some.inj hb1
    have hi0' : ∀ h, K[i]'h = some [v1, v2, v3, .mg 5 b 0 n cap] := fun h => by rw [List.getElem?_eq_getElem h] at hi; exact Option.some.inj hi
    have hi1' : ∀ h, K1[i]'h = some [v1, v2, v3, .mg 5 b 0 n cap] := fun h => by rw [List.getElem?_eq_getElem h] at hi1; exact Option.some.inj hi1
    have hfr : ∀ y, GReps OrR (K1.set b y) l rs S2 := fun y => GReps.frame (R := OrR) (fun _ _ _ _ _ h hS => OrR.frame h hS) hrs fun q hq => by
      have hq1 : q ≠ b := fun e => hnb (by rw [← e]; exact List.mem_append_right _ hq)
      rw [set_ne hq1, hf1' q (h2l q hq) (fun h => hdis q h q hq rfl)]
    have hih := fun φ' gs g7' => oracles_wipe i j b n cap hn v1 v2 v3 k Q l (fun e he => hW e (List.mem_cons_of_mem _ he)) (t + 1) (pre ++ [.str [], .int .i64 0, .int .i64 0, .str [], .sl 4 []]) rs S2
      (K1.set b (some (pre ++ ([.str [], .int .i64 0, .int .i64 0, .str [], .sl 4 []] ++ (rs.flatten ++ junk))))) junk φ' (by simp [hp]; omega) (by
        rw [set_eq hb1]; simp) (hfr _)
      (List.nodup_cons.2 ⟨fun h => hnb (List.mem_append_right _ h), hnd4⟩) (by simp only [List.mem_cons, not_or]; exact ⟨hib.1, hib.2.2⟩) (fun q hq => by
        rw [List.length_set, hl1']
        rcases List.mem_cons.1 hq with h | h
        · omega
        · have := h2l q h; omega) (by omega) (by rw [set_ne hib.1, hi1]) gs g7' (fun φ2 K2 hs2 hf2 => he φ2 K2 hs2 fun q hql hq => by
        rw [hf2 q (by rw [List.length_set, hl1']; omega) (fun h => hq (by rcases List.mem_cons.1 h with h | h; exact h ▸ List.mem_cons_self ..; exact List.mem_cons_of_mem _ (List.mem_append_right _ h)))]
        have hq1 : q ≠ b := fun e => hq (by rw [e]; exact List.mem_cons_self ..)
        rw [set_ne hq1, hf1' q hql (fun h => hq (List.mem_cons_of_mem _ (List.mem_append_left _ h)))])
    rw [l_flotsamlaw16_TreeSames_w_1, M_loop, ← l_flotsamlaw16_TreeSames_w_1]
    rcases hvv with rfl | ⟨i2, cap2, rfl⟩ <;>
    · simp [b_flotsamlaw16_TreeSames_w_1, g2, g5, g6, g7, hlt, hlt', hw, hb0, hb1, hb0', hb1', hi, hi1, hi0', hi1', hg, hE, hlen, hroom, hroom1, hP]
      refine hih _ ⟨?_, ?_, ?_⟩ ?_
      all_goals simp [g2, g5, g6]

end Go.AM.Spec

namespace Go.AM.Spec
set_option linter.unusedVariables false
set_option linter.unusedSimpArgs false
set_option maxHeartbeats 4000000
set_option maxRecDepth 10000

theorem frz_sl' (H : Heap) (k : Nat) (r : List (List V)) : frzV deepest H (.sl k r) = some (.sl k r, H) := by
  have hd : deepest = 99999 + 1 := rfl
  rw [hd]; simp [frzV]

theorem Pg.frz_self (p : Pg) (H : Heap) : frzL (frzV deepest) H p.cells = some (p.cells, H) := frzL_cons (frz_sl' _ _ _) (frzL_cons (frz_sl' _ _ _) (frzL_cons (frz_sl' _ _ _) (frzL_cons (frz_sl' _ _ _) rfl)))

/-- The end of the law. -/
theorem end_eq (p : Pg) (hp : p.size ≤ 20000) (i j : Nat) (φ : Fr) (K : Heap) (hs : LawSt i j φ) (k0 : K[0]? = some (some p.cells)) (kj : K[j]? = some (some p.cells)) :
    ∃ H', M (eval tbl noExt) [.code r_flotsamlaw16_TreeSames_w_0, .wfn [.t 4]] φ K = some (.bool true, H') := by
  obtain ⟨g2, g5, g6⟩ := hs
  have k0' : ∀ h, K[0]'h = some p.cells := fun h => by rw [List.getElem?_eq_getElem h] at k0; exact Option.some.inj k0
  have kj' : ∀ h, K[j]'h = some p.cells := fun h => by rw [List.getElem?_eq_getElem h] at kj; exact Option.some.inj kj
  have hl : p.cells.length = 4 := rfl
  have ht : p.cells.take 4 = p.cells := rfl
  have hf := p.frz_self
  have hst : p.cells.map V.strip = p.cells := rfl
  have hu : V.underAll 0 p.cells = true := rfl
  have hS := Same_eq p p hp
  have hR := refSame2 p p hp
  rw [p.same_rfl] at hS hR
  simp [r_flotsamlaw16_TreeSames_w_0, g2, g5, g6, k0, kj, k0', kj', hl, ht, frzA, frzL, hst, hu, hf, hS, hR]

/-- The loop over the oracles, and the end. -/
theorem oracles_all (p : Pg) (hp : p.size ≤ 20000) (i j : Nat) (φ : Fr) (K : Heap) (hs : LawSt i j φ) {v1 v2 v3 v4 : V} {S : List Nat} (ki : K[i]? = some (some [v1, v2, v3, v4])) (hv : LRep 5 K p.oracles.length v4 S (GReps OrR K p.oracles)) (hnd : S.Nodup) (hS : ∀ q ∈ S, q < K.length ∧ q ≠ 0 ∧ q ≠ i ∧ q ≠ j)
    (k0 : K[0]? = some (some p.cells)) (kj : K[j]? = some (some p.cells)) (g8 : Fr.get φ 8 = .int .i64 0) :
    ∃ H', M (eval tbl noExt) [.code l_flotsamlaw16_TreeSames_w_1, .blk 2, .code r_flotsamlaw16_TreeSames_w_0, .wfn [.t 4]] φ K = some (.bool true, H') := by
  have hsz := p.size_eq
  obtain ⟨_, ho, _, hol, _, _⟩ := p.small hp
  have ki' : ∀ h, K[i]'h = some [v1, v2, v3, v4] := fun h => by rw [List.getElem?_eq_getElem h] at ki; exact Option.some.inj ki
  rcases hv with ⟨h1, rfl, rfl⟩ | ⟨b, cap, junk, rows, S', rfl, rfl, h1, h2, h3⟩
  · obtain ⟨g2, g5, g6⟩ := hs
    have he := fun φ' hs' => end_eq p hp i j φ' K hs' k0 kj
    rw [l_flotsamlaw16_TreeSames_w_1, M_loop, ← l_flotsamlaw16_TreeSames_w_1]
    simp [b_flotsamlaw16_TreeSames_w_1, g2, g5, g6, g8, ki, ki']
    exact he _ ⟨by simp [g2], by simp [g5], by simp [g6]⟩
  · refine oracles_wipe i j b p.oracles.length cap hol v1 v2 v3 _ (fun o => ∃ H', o = some (.bool true, H')) p.oracles (fun x hx => wipeE_ok 20000 _ (by
      have := ho x hx
      obtain ⟨_, e⟩ := x
      cases e
      simp only [Ex.size, Ex.subs] at this ⊢
      omega) (Nat.le_refl _)) 0 [] rows S' K junk φ rfl (by simpa using h1) h2 hnd (fun h => (hS _ h).2.2.1 rfl) (fun q hq => (hS q hq).1) (by omega) ki hs (by simpa using g8) fun φ' K' hs' hf => ?_
    have hl0 := (List.getElem?_eq_some_iff.1 k0).1
    have hlj := (List.getElem?_eq_some_iff.1 kj).1
    exact end_eq p hp i j φ' K' hs' (by rw [hf 0 hl0 fun h => (hS _ h).2.1 rfl, k0]) (by rw [hf j hlj fun h => (hS _ h).2.2.2 rfl, kj])

/-- The loop over the procedures, and what follows. -/
theorem procs_all (p : Pg) (hp : p.size ≤ 20000) (i j : Nat) (φ : Fr) (K : Heap) (hs : LawSt i j φ) {v1 v2 v3 v4 : V} {S1 S : List Nat} (ki : K[i]? = some (some [v1, v2, v3, v4])) (hv1 : LRep 2 K p.procs.length v1 S1 (GReps PrR K p.procs)) (hv : LRep 5 K p.oracles.length v4 S (GReps OrR K p.oracles)) (hnd : (S1 ++ S).Nodup) (hS : ∀ q ∈ S1 ++ S, q < K.length ∧ q ≠ 0 ∧ q ≠ i ∧ q ≠ j)
    (k0 : K[0]? = some (some p.cells)) (kj : K[j]? = some (some p.cells)) (g7 : Fr.get φ 7 = .int .i64 0) :
    ∃ H', M (eval tbl noExt) [.code l_flotsamlaw16_TreeSames_w_0, .blk 0, .code r_flotsamlaw16_TreeSames_w_1, .wfn [.t 4]] φ K = some (.bool true, H') := by
  have hsz := p.size_eq
  obtain ⟨hpr, _, hpl, _, _, _⟩ := p.small hp
  obtain ⟨n1, n2, dis⟩ := List.nodup_append.1 hnd
  have ki' : ∀ h, K[i]'h = some [v1, v2, v3, v4] := fun h => by rw [List.getElem?_eq_getElem h] at ki; exact Option.some.inj ki
  have go : ∀ φ' K', LawSt i j φ' → K'.length = K.length → (∀ q, q ∉ S1 → K'[q]? = K[q]?) → ∃ H', M (eval tbl noExt) [.code r_flotsamlaw16_TreeSames_w_1, .wfn [.t 4]] φ' K' = some (.bool true, H') := fun φ' K' hs' hl hf => by
    have h0 := fun φ'' hs'' g8 => oracles_all p hp i j φ'' K' hs'' (v1 := v1) (v2 := v2) (v3 := v3) (v4 := v4) (S := S) (by rw [hf i fun h => (hS i (List.mem_append_left _ h)).2.2.1 rfl, ki]) (hv.frame (fun q hq => hf q fun h => dis q h q hq rfl) fun rows S' hs h => GReps.frame (R := OrR) (fun _ _ _ _ _ h hS => OrR.frame h hS) h fun q hq => hf q fun h => dis q h q (hs q hq) rfl) n2
      (fun q hq => by rw [hl]; exact hS q (List.mem_append_right _ hq)) (by rw [hf 0 fun h => (hS 0 (List.mem_append_left _ h)).2.1 rfl, k0]) (by rw [hf j fun h => (hS j (List.mem_append_left _ h)).2.2.2 rfl, kj]) g8
    obtain ⟨g2, g5, g6⟩ := hs'
    simp [r_flotsamlaw16_TreeSames_w_1]
    exact h0 _ ⟨by simp [g2], by simp [g5], by simp [g6]⟩ (by simp)
  rcases hv1 with ⟨h1, rfl, rfl⟩ | ⟨b, cap, junk, rows, S', rfl, rfl, h1, h2, h3⟩
  · obtain ⟨g2, g5, g6⟩ := hs
    rw [l_flotsamlaw16_TreeSames_w_0, M_loop, ← l_flotsamlaw16_TreeSames_w_0]
    simp [b_flotsamlaw16_TreeSames_w_0, g2, g5, g6, g7, ki, ki']
    exact go _ _ ⟨by simp [g2], by simp [g5], by simp [g6]⟩ rfl fun _ _ => rfl
  · refine procs_wipe i j b p.procs.length cap hpl v2 v3 v4 _ (fun o => ∃ H', o = some (.bool true, H')) p.procs (fun x hx => wipeS_ok 20000 _ (hpr x hx) (Nat.le_refl _)) 0 [] rows S' K junk φ rfl (by simpa using h1) h2 n1 (fun h => (hS i (List.mem_append_left _ h)).2.2.1 rfl) (by omega) ki hs (by simpa using g7) fun φ' K' hs' hl hf => ?_
    exact go _ _ hs' hl hf

/-- The whole last part. -/
theorem rest_eq (p q : Pg) (hp : p.size ≤ 20000) (i j : Nat) (φ : Fr) (K : Heap) (hs : LawSt i j φ) (g3 : Fr.get φ 3 = .ptr 1 0) {C : List V} {S : List Nat} (ki : K[i]? = some (some C)) (hv : Pg.rep K p C S) (hnd : S.Nodup) (hS : ∀ q ∈ S, q < K.length ∧ q ≠ 0 ∧ q ≠ i ∧ q ≠ j)
    (k0 : K[0]? = some (some p.cells)) (k1 : K[1]? = some (some q.cells)) (kj : K[j]? = some (some p.cells)) :
    ∃ H', M (eval tbl noExt) [.code p3_flotsamlaw16_TreeSames, .wfn [.t 4]] φ K = some (.bool true, H') := by
  have hsz := p.size_eq
  obtain ⟨K', hfc, _⟩ := Pg.frz (n := 99998) hv hnd (by omega)
  have hfc' : frzL (frzV deepest) K C = some (p.cells, K') := hfc
  obtain ⟨v1, v2, v3, v4, S1, S2, S3, S4, rfl, rfl, l1, l2, l3, l4⟩ := hv
  obtain ⟨_, _, _, _, hm, hr⟩ := p.small hp
  obtain ⟨d1, d234, e1⟩ := List.nodup_append.1 hnd
  obtain ⟨d2, d34, e2⟩ := List.nodup_append.1 d234
  obtain ⟨d3, d4, e3⟩ := List.nodup_append.1 d34
  obtain ⟨K1, hE1, hl1, hf1⟩ := wipeS_ok 20000 _ hm (Nat.le_refl _) v2 S2 K l2 d2
  obtain ⟨K2, hE2, hl2, hf2⟩ := wipeS_ok 20000 _ hr (Nat.le_refl _) v3 S3 K1 (l3.frame (fun q hq => hf1 q fun h => e2 q h q (List.mem_append_left _ hq) rfl) fun rows S' hs h => Sm.reps_frame h fun q hq => hf1 q fun h => e2 q h q (List.mem_append_left _ (hs q hq)) rfl) d3
  have hall : ∀ q, q ∉ S2 → q ∉ S3 → K2[q]? = K[q]? := fun q h2 h3 => by rw [hf2 q h3, hf1 q h2]
  have m2 : ∀ q ∈ S2, q ∈ S1 ++ (S2 ++ (S3 ++ S4)) := fun q h => List.mem_append_right _ (List.mem_append_left _ h)
  have m3 : ∀ q ∈ S3, q ∈ S1 ++ (S2 ++ (S3 ++ S4)) := fun q h => List.mem_append_right _ (List.mem_append_right _ (List.mem_append_left _ h))
  have m4 : ∀ q ∈ S4, q ∈ S1 ++ (S2 ++ (S3 ++ S4)) := fun q h => List.mem_append_right _ (List.mem_append_right _ (List.mem_append_right _ h))
  have ki1 : K1[i]? = some (some [v1, v2, v3, v4]) := by rw [hf1 i fun h => (hS i (m2 i h)).2.2.1 rfl, ki]
  have ki2 : K2[i]? = some (some [v1, v2, v3, v4]) := by rw [hf2 i fun h => (hS i (m3 i h)).2.2.1 rfl, ki1]
  have k02 : K2[0]? = some (some p.cells) := by rw [hall 0 (fun h => (hS 0 (m2 0 h)).2.1 rfl) (fun h => (hS 0 (m3 0 h)).2.1 rfl), k0]
  have kj2 : K2[j]? = some (some p.cells) := by rw [hall j (fun h => (hS j (m2 j h)).2.2.2 rfl) (fun h => (hS j (m3 j h)).2.2.2 rfl), kj]
  have a1 : ∀ q ∈ S1, K2[q]? = K[q]? := fun q h => hall q (fun h' => e1 q h q (List.mem_append_left _ h') rfl) (fun h' => e1 q h q (List.mem_append_right _ (List.mem_append_left _ h')) rfl)
  have a4 : ∀ q ∈ S4, K2[q]? = K[q]? := fun q h => hall q (fun h' => e2 q h' q (List.mem_append_right _ h) rfl) (fun h' => e3 q h' q h rfl)
  have go := fun φ' hs' g7 => procs_all p hp i j φ' K2 hs' ki2 (l1.frame a1 fun rows S' hs h => GReps.frame (R := PrR) (fun _ _ _ _ _ h hS => PrR.frame h hS) h fun q hq => a1 q (hs q hq)) (l4.frame a4 fun rows S' hs h => GReps.frame (R := OrR) (fun _ _ _ _ _ h hS => OrR.frame h hS) h fun q hq => a4 q (hs q hq))
    (List.nodup_append.2 ⟨d1, d4, fun a ha b hb => e1 a ha b (List.mem_append_right _ (List.mem_append_right _ hb))⟩) (fun q hq => by
      rw [hl2, hl1]
      rcases List.mem_append.1 hq with h | h
      · exact hS q (List.mem_append_left _ h)
      · exact hS q (m4 q h)) k02 kj2 g7
  obtain ⟨g2, g5, g6⟩ := hs
  have k0' : ∀ h, K[0]'h = some p.cells := fun h => by rw [List.getElem?_eq_getElem h] at k0; exact Option.some.inj k0
  have k1' : ∀ h, K[1]'h = some q.cells := fun h => by rw [List.getElem?_eq_getElem h] at k1; exact Option.some.inj k1
  have hlp : p.cells.length = 4 := rfl
  have htp : p.cells.take 4 = p.cells := rfl
  have hlq : q.cells.length = 4 := rfl
  have htq : q.cells.take 4 = q.cells := rfl
  have hstp : p.cells.map V.strip = p.cells := rfl
  have hstq : q.cells.map V.strip = q.cells := rfl
  have hup : V.underAll 0 p.cells = true := rfl
  have huq : V.underAll 0 q.cells = true := rfl
  have hfp := p.frz_self
  have hfq := q.frz_self
  have hT1 := Same_eq p q hp
  have hR1 := refSame2 p q hp
  have hT2 := Same_eq p p hp
  have hR2 := refSame2 p p hp
  rw [p.same_rfl] at hT2 hR2
  have hst1 : [v1.strip, v2.strip, v3.strip, v4.strip] = [v1, v2, v3, v4] := by
    rcases l1.val with rfl | ⟨_, _, rfl⟩ <;> rcases l2.val with rfl | ⟨_, _, rfl⟩ <;> rcases l3.val with rfl | ⟨_, _, rfl⟩ <;> rcases l4.val with rfl | ⟨_, _, rfl⟩ <;> rfl
  obtain ⟨C, hC⟩ : ∃ C, C = [v1, v2, v3, v4] := ⟨_, rfl⟩
  have hcl : C.length = 4 := by rw [hC]; rfl
  have hct : C.take 4 = C := by rw [hC]; rfl
  have hcs : C.map V.strip = C := by rw [hC]; exact hst1
  have hc1 : C[1]? = some v2 := by rw [hC]; rfl
  have hc2 : C[2]? = some v3 := by rw [hC]; rfl
  rw [← hC] at ki ki1 hfc'
  have ki' : ∀ h, K[i]'h = some C := fun h => by rw [List.getElem?_eq_getElem h] at ki; exact Option.some.inj ki
  have ki1' : ∀ h, K1[i]'h = some C := fun h => by rw [List.getElem?_eq_getElem h] at ki1; exact Option.some.inj ki1
  have hc1' : ∀ h, C[1]'h = v2 := fun h => by rw [List.getElem?_eq_getElem h] at hc1; exact Option.some.inj hc1
  have hc2' : ∀ h, C[2]'h = v3 := fun h => by rw [List.getElem?_eq_getElem h] at hc2; exact Option.some.inj hc2
  have w2 := l2.val
  have w3 := l3.val
  generalize hsame : p.same q = sm at *
  rcases w2 with rfl | ⟨_, _, rfl⟩ <;> rcases w3 with rfl | ⟨_, _, rfl⟩ <;> cases sm <;>
  · simp [p3_flotsamlaw16_TreeSames, g2, g3, g5, g6, k0, k1, kj, ki, ki1, k0', k1', ki', ki1', hlp, htp, hlq, htq, hstp, hstq, hup, huq, hfp, hfq, hfc', hT1, hR1, hT2, hR2, hE1, hE2, frzA, frzL, hcl, hct, hcs, hc1, hc2, hc1', hc2']
    refine go _ ⟨?_, ?_, ?_⟩ ?_
    all_goals simp [g2, g5, g6]

end Go.AM.Spec

namespace Go.AM.Spec
set_option linter.unusedVariables false
set_option linter.unusedSimpArgs false
set_option maxHeartbeats 4000000
set_option maxRecDepth 10000

theorem Pg.rep_frame {p : Pg} {H K : Heap} {C : List V} {S : List Nat} (h : Pg.rep H p C S) (hS : ∀ i ∈ S, K[i]? = H[i]?) : Pg.rep K p C S := by
  obtain ⟨v1, v2, v3, v4, S1, S2, S3, S4, rfl, rfl, l1, l2, l3, l4⟩ := h
  have a1 : ∀ i ∈ S1, K[i]? = H[i]? := fun i hi => hS i (by simp [hi])
  have a2 : ∀ i ∈ S2, K[i]? = H[i]? := fun i hi => hS i (by simp [hi])
  have a3 : ∀ i ∈ S3, K[i]? = H[i]? := fun i hi => hS i (by simp [hi])
  have a4 : ∀ i ∈ S4, K[i]? = H[i]? := fun i hi => hS i (by simp [hi])
  exact ⟨v1, v2, v3, v4, S1, S2, S3, S4, rfl, rfl, l1.frame a1 fun rows S' hs h => GReps.frame (R := PrR) (fun _ _ _ _ _ h hS => PrR.frame h hS) h fun q hq => a1 q (hs q hq), l2.frame a2 fun rows S' hs h => Sm.reps_frame h fun q hq => a2 q (hs q hq),
    l3.frame a3 fun rows S' hs h => Sm.reps_frame h fun q hq => a3 q (hs q hq), l4.frame a4 fun rows S' hs h => GReps.frame (R := OrR) (fun _ _ _ _ _ h hS => OrR.frame h hS) h fun q hq => a4 q (hs q hq)⟩

theorem Pg.rep_len {p : Pg} {H : Heap} {C : List V} {S : List Nat} (h : Pg.rep H p C S) : C.length = 4 ∧ C.all V.one = true := by
  obtain ⟨v1, v2, v3, v4, S1, S2, S3, S4, rfl, rfl, l1, l2, l3, l4⟩ := h
  refine ⟨rfl, ?_⟩
  rcases l1.val with rfl | ⟨_, _, rfl⟩ <;> rcases l2.val with rfl | ⟨_, _, rfl⟩ <;> rcases l3.val with rfl | ⟨_, _, rfl⟩ <;> rcases l4.val with rfl | ⟨_, _, rfl⟩ <;> rfl

/-- A copy beside a memory that it does not see. -/
theorem clone_own (p : Pg) (hp : p.size ≤ 20000) (n : Nat) : ∃ C L S, callOwn (eval tbl noExt) (wNo n_tree_Clone) [.agg p.cells] n = some (.agg C, L) ∧ (∀ K : Heap, K.length = n → Pg.rep (K ++ L) p C S) ∧ S.Nodup ∧ ∀ i ∈ S, n ≤ i ∧ i < n + L.length := by
  obtain ⟨C, L, S, h1, h2, h3, h4⟩ := CloneDF p hp (List.replicate n none)
  refine ⟨C, L, S, by simp [callOwn, h1], fun K hK => Pg.rep_frame h2 (getH hK fun i hi => ?_), h3, fun i hi => ?_⟩
  · have := (h4 i hi).1; simpa using this
  · have := h4 i hi; simpa using this

def zeroP : List V := [.own 2 [], .own 7 [], .own 7 [], .own 5 []]

/-- What stands where some of the parts have run. -/
structure Iv (p q : Pg) (d : List Nat) (i j : Nat) (C : List V) (S : List Nat) (φ : Fr) (H : Heap) : Prop where
  dc6 : 6 ∈ d → 4 ∈ d ∧ 1 ∈ d
  dc7 : 7 ∈ d → 5 ∈ d ∧ 3 ∈ d
  g2 : Fr.get φ 2 = .ptr 0 0
  g3 : Fr.get φ 3 = .ptr 1 0
  h0 : H[0]? = some (some p.cells)
  h1 : H[1]? = some (some q.cells)
  g22 : 0 ∈ d → Fr.get φ 22 = .agg p.cells
  g24 : 2 ∈ d → Fr.get φ 24 = .agg p.cells
  g25 : 3 ∈ d → Fr.get φ 25 = .agg p.cells
  g23 : 1 ∈ d → Fr.get φ 23 = .agg C
  rep : 1 ∈ d → Pg.rep H p C S
  bd : ∀ s ∈ S, 2 ≤ s ∧ s < H.length ∧ (4 ∈ d → s ≠ i) ∧ (5 ∈ d → s ≠ j)
  nd : S.Nodup
  g5 : 4 ∈ d → Fr.get φ 5 = .ptr i 0 ∧ 2 ≤ i ∧ H[i]? = some (some (if 6 ∈ d then C else zeroP))
  g6 : 5 ∈ d → Fr.get φ 6 = .ptr j 0 ∧ 2 ≤ j ∧ H[j]? = some (some (if 7 ∈ d then p.cells else zeroP))
  ne : 4 ∈ d → 5 ∈ d → i ≠ j

def Ivs (p q : Pg) (d : List Nat) (φ : Fr) (H : Heap) : Prop := ∃ i j C S, Iv p q d i j C S φ H

def depsT : Nat → List Nat
  | 1 => [0] | 3 => [2] | 6 => [4, 1] | 7 => [5, 3] | _ => []

/-- An order that keeps what its parts need. -/
def okRun : List Nat → List Nat → Bool
  | d, [] => [0, 1, 2, 3, 4, 5, 6, 7].all (d.contains ·)
  | d, k :: o => decide (k < 8) && !d.contains k && (depsT k).all (d.contains ·) && okRun (k :: d) o

section
variable {p q : Pg} {d : List Nat} {φ : Fr} {H : Heap}

theorem set_many4 {C Z : List V} (hC : C.length = 4) (hZ : Z.length = 4) : setMany Z 0 C = C := by
  match C, Z, hC, hZ with
  | [a, b, c, e], [a', b', c', e'], _, _ => rfl

/-- Each part, where what it needs has run. -/
theorem step_t (hp : p.size ≤ 20000) (k : Nat) (h : Ivs p q d φ H) (hk : k < 8) (hn : k ∉ d) (hd : ∀ x ∈ depsT k, x ∈ d) : ∃ φ' H', stepO (eval tbl noExt) (o_flotsamlaw16_TreeSames.getD k default) φ H = some (φ', H') ∧ Ivs p q (k :: d) φ' H' := by
  obtain ⟨i, j, C, S, h⟩ := h
  have lp : p.cells.length = 4 := rfl
  have tp : p.cells.take 4 = p.cells := rfl
  have hst : p.cells.map V.strip = p.cells := rfl
  have hu : V.underAll 0 p.cells = true := rfl
  have h0' : ∀ hh, H[0]'hh = some p.cells := fun hh => by have h0 := h.h0; rw [List.getElem?_eq_getElem hh] at h0; exact Option.some.inj h0
  match k, hk, hn, hd with
  | 0, _, hn, hd =>
    exact ⟨(22, .agg p.cells) :: φ, H, by simp [o_flotsamlaw16_TreeSames, h.g2, h.h0, h0', lp, tp, hst], i, j, C, S, {
      dc6 := (fun h6 => by have hq := h.dc6 (by simpa using h6); simp [hq]),
      dc7 := (fun h6 => by have hq := h.dc7 (by simpa using h6); simp [hq]),
      g2 := (by simp [h.g2]),
      g3 := (by simp [h.g3]),
      h0 := (h.h0),
      h1 := (h.h1),
      g22 := (fun _ => by simp),
      g24 := (fun hd => by have hq := h.g24 (by simpa using hd); simpa using hq),
      g25 := (fun hd => by have hq := h.g25 (by simpa using hd); simpa using hq),
      g23 := (fun hd => by have hq := h.g23 (by simpa using hd); simpa using hq),
      rep := (fun hd => by have hq := h.rep (by simpa using hd); simpa using hq),
      bd := (fun s hs => by have hq := h.bd s hs; simpa using hq),
      nd := (h.nd),
      g5 := (fun hd => by have hq := h.g5 (by simpa using hd); simpa using hq),
      g6 := (fun hd => by have hq := h.g6 (by simpa using hd); simpa using hq),
      ne := (fun h4 h5 => h.ne (by simpa using h4) (by simpa using h5)) }⟩
  | 1, _, hn, hd =>
    obtain ⟨C', L, S', e1, e2, e3, e4⟩ := clone_own p hp H.length
    have g22 := h.g22 (hd 0 (by simp [depsT]))
    have happ : ∀ {x}, x < H.length → (H ++ L)[x]? = H[x]? := fun hx => List.getElem?_append_left hx
    have l0 := (List.getElem?_eq_some_iff.1 h.h0).1
    have l1 := (List.getElem?_eq_some_iff.1 h.h1).1
    refine ⟨(23, .agg C') :: φ, H ++ L, by simp [o_flotsamlaw16_TreeSames, g22, e1, hst], i, j, C', S', ?_⟩
    exact {
      dc6 := (fun h6 => by have hq := h.dc6 (by simpa using h6); simp [hq]),
      dc7 := (fun h6 => by have hq := h.dc7 (by simpa using h6); simp [hq]),
      g2 := (by simp [h.g2]),
      g3 := (by simp [h.g3]),
      h0 := (by rw [happ l0, h.h0]),
      h1 := (by rw [happ l1, h.h1]),
      g22 := (fun hd => by have hq := h.g22 (by simpa using hd); simpa using hq),
      g24 := (fun hd => by have hq := h.g24 (by simpa using hd); simpa using hq),
      g25 := (fun hd => by have hq := h.g25 (by simpa using hd); simpa using hq),
      g23 := (fun _ => by simp),
      rep := (fun _ => e2 H rfl),
      bd := (fun s hs => by
        have hq := e4 s hs
        refine ⟨by omega, by simp only [List.length_append]; omega, fun h4 e => ?_, fun h5 e => ?_⟩
        · have := (List.getElem?_eq_some_iff.1 (h.g5 (by simpa using h4)).2.2).1; omega
        · have := (List.getElem?_eq_some_iff.1 (h.g6 (by simpa using h5)).2.2).1; omega),
      nd := (e3),
      g5 := (fun h4 => by
        obtain ⟨a, b, c⟩ := h.g5 (by simpa using h4)
        have hl := (List.getElem?_eq_some_iff.1 c).1
        refine ⟨by simpa using a, b, ?_⟩
        rw [happ hl, c, if_neg fun h6 => hn (h.dc6 h6).2, if_neg]
        simpa using fun h6 => hn (h.dc6 h6).2),
      g6 := (fun h4 => by
        obtain ⟨a, b, c⟩ := h.g6 (by simpa using h4)
        have hl := (List.getElem?_eq_some_iff.1 c).1
        refine ⟨by simpa using a, b, ?_⟩
        rw [happ hl, c]; simp),
      ne := (fun h4 h5 => h.ne (by simpa using h4) (by simpa using h5)) }
  | 2, _, hn, hd =>
    exact ⟨(24, .agg p.cells) :: φ, H, by simp [o_flotsamlaw16_TreeSames, h.g2, h.h0, h0', lp, tp, hst], i, j, C, S, {
      dc6 := (fun h6 => by have hq := h.dc6 (by simpa using h6); simp [hq]),
      dc7 := (fun h6 => by have hq := h.dc7 (by simpa using h6); simp [hq]),
      g2 := (by simp [h.g2]),
      g3 := (by simp [h.g3]),
      h0 := (h.h0),
      h1 := (h.h1),
      g22 := (fun hd => by have hq := h.g22 (by simpa using hd); simpa using hq),
      g24 := (fun _ => by simp),
      g25 := (fun hd => by have hq := h.g25 (by simpa using hd); simpa using hq),
      g23 := (fun hd => by have hq := h.g23 (by simpa using hd); simpa using hq),
      rep := (fun hd => by have hq := h.rep (by simpa using hd); simpa using hq),
      bd := (fun s hs => by have hq := h.bd s hs; simpa using hq),
      nd := (h.nd),
      g5 := (fun hd => by have hq := h.g5 (by simpa using hd); simpa using hq),
      g6 := (fun hd => by have hq := h.g6 (by simpa using hd); simpa using hq),
      ne := (fun h4 h5 => h.ne (by simpa using h4) (by simpa using h5)) }⟩
  | 3, _, hn, hd =>
    have g24 := h.g24 (hd 2 (by simp [depsT]))
    have hC := Copy_eq p hp
    exact ⟨(25, .agg p.cells) :: φ, H, by simp [o_flotsamlaw16_TreeSames, g24, hC, hst, hu, lt_flotsamref16_Copy], i, j, C, S, {
      dc6 := (fun h6 => by have hq := h.dc6 (by simpa using h6); simp [hq]),
      dc7 := (fun h6 => by have hq := h.dc7 (by simpa using h6); simp [hq]),
      g2 := (by simp [h.g2]),
      g3 := (by simp [h.g3]),
      h0 := (h.h0),
      h1 := (h.h1),
      g22 := (fun hd => by have hq := h.g22 (by simpa using hd); simpa using hq),
      g24 := (fun hd => by have hq := h.g24 (by simpa using hd); simpa using hq),
      g25 := (fun _ => by simp),
      g23 := (fun hd => by have hq := h.g23 (by simpa using hd); simpa using hq),
      rep := (fun hd => by have hq := h.rep (by simpa using hd); simpa using hq),
      bd := (fun s hs => by have hq := h.bd s hs; simpa using hq),
      nd := (h.nd),
      g5 := (fun hd => by have hq := h.g5 (by simpa using hd); simpa using hq),
      g6 := (fun hd => by have hq := h.g6 (by simpa using hd); simpa using hq),
      ne := (fun h4 h5 => h.ne (by simpa using h4) (by simpa using h5)) }⟩
  | 4, _, hn, hd =>
    have happ : ∀ {x}, x < H.length → (H ++ [some zeroP])[x]? = H[x]? := fun hx => List.getElem?_append_left hx
    have l0 := (List.getElem?_eq_some_iff.1 h.h0).1
    have l1 := (List.getElem?_eq_some_iff.1 h.h1).1
    refine ⟨(5, .ptr H.length 0) :: φ, H ++ [some zeroP], by simp [o_flotsamlaw16_TreeSames, zeroP], H.length, j, C, S, ?_⟩
    exact {
      dc6 := (fun h6 => by have hq := h.dc6 (by simpa using h6); simp [hq]),
      dc7 := (fun h6 => by have hq := h.dc7 (by simpa using h6); simp [hq]),
      g2 := (by simp [h.g2]),
      g3 := (by simp [h.g3]),
      h0 := (by rw [happ l0, h.h0]),
      h1 := (by rw [happ l1, h.h1]),
      g22 := (fun hd => by have hq := h.g22 (by simpa using hd); simpa using hq),
      g24 := (fun hd => by have hq := h.g24 (by simpa using hd); simpa using hq),
      g25 := (fun hd => by have hq := h.g25 (by simpa using hd); simpa using hq),
      g23 := (fun hd => by have hq := h.g23 (by simpa using hd); simpa using hq),
      rep := (fun h1 => Pg.rep_frame (h.rep (by simpa using h1)) fun s hs => happ (h.bd s hs).2.1),
      bd := (fun s hs => by
        have hq := h.bd s hs
        refine ⟨hq.1, by simp only [List.length_append]; omega, fun _ e => by omega, fun h5 => hq.2.2.2 (by simpa using h5)⟩),
      nd := (h.nd),
      g5 := (fun _ => ⟨by simp, by omega, by rw [if_neg (by simpa using fun h6 => hn (h.dc6 h6).1)]; simp⟩),
      g6 := (fun h4 => by
        obtain ⟨a, b, c⟩ := h.g6 (by simpa using h4)
        have hl := (List.getElem?_eq_some_iff.1 c).1
        refine ⟨by simpa using a, b, ?_⟩
        rw [happ hl, c]; simp),
      ne := (fun _ h5 e => by have := (List.getElem?_eq_some_iff.1 (h.g6 (by simpa using h5)).2.2).1; omega) }
  | 5, _, hn, hd =>
    have happ : ∀ {x}, x < H.length → (H ++ [some zeroP])[x]? = H[x]? := fun hx => List.getElem?_append_left hx
    have l0 := (List.getElem?_eq_some_iff.1 h.h0).1
    have l1 := (List.getElem?_eq_some_iff.1 h.h1).1
    refine ⟨(6, .ptr H.length 0) :: φ, H ++ [some zeroP], by simp [o_flotsamlaw16_TreeSames, zeroP], i, H.length, C, S, ?_⟩
    exact {
      dc6 := (fun h6 => by have hq := h.dc6 (by simpa using h6); simp [hq]),
      dc7 := (fun h6 => by have hq := h.dc7 (by simpa using h6); simp [hq]),
      g2 := (by simp [h.g2]),
      g3 := (by simp [h.g3]),
      h0 := (by rw [happ l0, h.h0]),
      h1 := (by rw [happ l1, h.h1]),
      g22 := (fun hd => by have hq := h.g22 (by simpa using hd); simpa using hq),
      g24 := (fun hd => by have hq := h.g24 (by simpa using hd); simpa using hq),
      g25 := (fun hd => by have hq := h.g25 (by simpa using hd); simpa using hq),
      g23 := (fun hd => by have hq := h.g23 (by simpa using hd); simpa using hq),
      rep := (fun h1 => Pg.rep_frame (h.rep (by simpa using h1)) fun s hs => happ (h.bd s hs).2.1),
      bd := (fun s hs => by
        have hq := h.bd s hs
        refine ⟨hq.1, by simp only [List.length_append]; omega, fun h4 => hq.2.2.1 (by simpa using h4), fun _ e => by omega⟩),
      nd := (h.nd),
      g5 := (fun h4 => by
        obtain ⟨a, b, c⟩ := h.g5 (by simpa using h4)
        have hl := (List.getElem?_eq_some_iff.1 c).1
        refine ⟨by simpa using a, b, ?_⟩
        rw [happ hl, c]; simp),
      g6 := (fun _ => ⟨by simp, by omega, by rw [if_neg (by simpa using fun h6 => hn (h.dc7 h6).1)]; simp⟩),
      ne := (fun h4 _ e => by have := (List.getElem?_eq_some_iff.1 (h.g5 (by simpa using h4)).2.2).1; omega) }
  | 6, _, hn, hd =>
    obtain ⟨a, b, c⟩ := h.g5 (hd 4 (by simp [depsT]))
    have gv := h.g23 (hd 1 (by simp [depsT]))
    obtain ⟨lc, oc⟩ := Pg.rep_len (h.rep (hd 1 (by simp [depsT])))
    rw [if_neg hn] at c
    have c' : ∀ hh, H[i]'hh = some zeroP := fun hh => by rw [List.getElem?_eq_getElem hh] at c; exact Option.some.inj c
    have hz : zeroP.length = 4 := rfl
    have hm := set_many4 lc hz
    refine ⟨φ, H.set i (some C), by simp [o_flotsamlaw16_TreeSames, a, gv, c, c', lc, oc, hz, hm, V.cells], i, j, C, S, ?_⟩
    exact {
      dc6 := (fun _ => ⟨by simp [hd 4 (by simp [depsT])], by simp [hd 1 (by simp [depsT])]⟩),
      dc7 := (fun h6 => by have hq := h.dc7 (by simpa using h6); simp [hq]),
      g2 := (h.g2),
      g3 := (h.g3),
      h0 := (by rw [set_ne (by omega), h.h0]),
      h1 := (by rw [set_ne (by omega), h.h1]),
      g22 := (fun hd => by have hq := h.g22 (by simpa using hd); simpa using hq),
      g24 := (fun hd => by have hq := h.g24 (by simpa using hd); simpa using hq),
      g25 := (fun hd => by have hq := h.g25 (by simpa using hd); simpa using hq),
      g23 := (fun hd => by have hq := h.g23 (by simpa using hd); simpa using hq),
      rep := (fun h1 => Pg.rep_frame (h.rep (by simpa using h1)) fun s hs => set_ne ((h.bd s hs).2.2.1 (hd 4 (by simp [depsT])))),
      bd := (fun s hs => by have hq := h.bd s hs; simpa using hq),
      nd := (h.nd),
      g5 := (fun _ => ⟨a, b, by rw [set_eq c]; simp⟩),
      g6 := (fun h4 => by
        obtain ⟨a2, b2, c2⟩ := h.g6 (by simpa using h4)
        refine ⟨a2, b2, ?_⟩
        rw [set_ne (fun e => h.ne (hd 4 (by simp [depsT])) (by simpa using h4) e.symm), c2]; simp),
      ne := (fun h4 h5 => h.ne (by simpa using h4) (by simpa using h5)) }
  | 7, _, hn, hd =>
    obtain ⟨a, b, c⟩ := h.g6 (hd 5 (by simp [depsT]))
    have gv := h.g25 (hd 3 (by simp [depsT]))
    have lc : p.cells.length = 4 := rfl
    have oc : p.cells.all V.one = true := rfl
    rw [if_neg hn] at c
    have c' : ∀ hh, H[j]'hh = some zeroP := fun hh => by rw [List.getElem?_eq_getElem hh] at c; exact Option.some.inj c
    have hz : zeroP.length = 4 := rfl
    have hm := set_many4 lc hz
    refine ⟨φ, H.set j (some p.cells), by simp [o_flotsamlaw16_TreeSames, a, gv, c, c', lc, oc, hz, hm, V.cells], i, j, C, S, ?_⟩
    exact {
      dc6 := (fun h6 => by have hq := h.dc6 (by simpa using h6); simp [hq]),
      dc7 := (fun _ => ⟨by simp [hd 5 (by simp [depsT])], by simp [hd 3 (by simp [depsT])]⟩),
      g2 := (h.g2),
      g3 := (h.g3),
      h0 := (by rw [set_ne (by omega), h.h0]),
      h1 := (by rw [set_ne (by omega), h.h1]),
      g22 := (fun hd => by have hq := h.g22 (by simpa using hd); simpa using hq),
      g24 := (fun hd => by have hq := h.g24 (by simpa using hd); simpa using hq),
      g25 := (fun hd => by have hq := h.g25 (by simpa using hd); simpa using hq),
      g23 := (fun hd => by have hq := h.g23 (by simpa using hd); simpa using hq),
      rep := (fun h1 => Pg.rep_frame (h.rep (by simpa using h1)) fun s hs => set_ne ((h.bd s hs).2.2.2 (hd 5 (by simp [depsT])))),
      bd := (fun s hs => by have hq := h.bd s hs; simpa using hq),
      nd := (h.nd),
      g5 := (fun h4 => by
        obtain ⟨a2, b2, c2⟩ := h.g5 (by simpa using h4)
        refine ⟨a2, b2, ?_⟩
        rw [set_ne (fun e => h.ne (by simpa using h4) (hd 5 (by simp [depsT])) e), c2]; simp),
      g6 := (fun _ => ⟨a, b, by rw [set_eq c]; simp⟩),
      ne := (fun h4 h5 => h.ne (by simpa using h4) (by simpa using h5)) }
  | n + 8, hk, _, _ => omega

end

end Go.AM.Spec

namespace Go.AM.Spec
set_option linter.unusedVariables false
set_option linter.unusedSimpArgs false
set_option maxHeartbeats 1000000

def SzE (e : Ex) : Prop := ∀ left : Int, -1000 ≤ left → left ≤ 1000 → ∃ r : Int, eval tbl noExt n_flotsamref16_expr [.agg e.cells, .int .i64 left] [] = some (.int .i64 r, []) ∧ -1000 ≤ r ∧ r ≤ 1001 ∧ (r ≤ left → r = e.size ∧ e.txt)
def SzB (l : List Sm) : Prop := ∀ left : Int, -1000 ≤ left → left ≤ 1000 → ∃ r : Int, eval tbl noExt n_flotsamref16_block [.sl 7 (Sm.rows l), .int .i64 left] [] = some (.int .i64 r, []) ∧ -1000 ≤ r ∧ r ≤ 1001 ∧ (r ≤ left → r = Sm.sizes l ∧ Sm.txts l)

theorem wi {n : Int} (h1 : -100000 ≤ n) (h2 : n ≤ 100000) : IntKind.i64.wrap n = n := w64 (by omega) (by omega)

theorem expr_loop (a0 a1 a2 : V) (l : List Ex) (left : Int) (h1l : left ≤ 1000) (hf : ∀ e ∈ l, SzE e) (Q : Option (V × Heap) → Prop) (k : List Item)
    (hret : ∀ φ', Fr.get φ' 4 = .int .i64 (left + 1) → Q (retK k φ' [some [a0, a1, a2, .sl 4 (Ex.rows l)]]))
    (hexit : ∀ φ', Fr.get φ' 5 = .int .i64 (1 + Ex.sizes l) → 1 + (Ex.sizes l : Int) ≤ left → Ex.txts l → Q (M (eval tbl noExt) k φ' [some [a0, a1, a2, .sl 4 (Ex.rows l)]])) :
    ∀ (j i : Nat) (φ : Fr), i + j = l.length → 1 + (Ex.sizes (l.take i) : Int) ≤ left → Ex.txts (l.take i) → Fr.get φ 1 = .int .i64 left → Fr.get φ 2 = .ptr 0 0 → Fr.get φ 5 = .int .i64 (1 + Ex.sizes (l.take i)) → Fr.get φ 6 = .int .i64 i →
      Q (M (eval tbl noExt) (.code l_flotsamref16_expr_0 :: .blk 0 :: k) φ [some [a0, a1, a2, .sl 4 (Ex.rows l)]]) := by
  intro j
  induction j with
  | zero =>
    intro i φ hj hle ht h1 h2 h5 h6
    have hi : ¬ ((i : Int) < l.length) := by omega
    rw [List.take_of_length_le (by omega)] at hle ht h5
    rw [l_flotsamref16_expr_0, M_loop, ← l_flotsamref16_expr_0]
    simp [b_flotsamref16_expr_0, h1, h2, h5, h6, hi, Ex.rows_len]
    exact hexit _ (by simp [h5]) hle ht
  | succ j ih =>
    intro i φ hj hle ht h1 h2 h5 h6
    have hi : (i : Int) < l.length := by omega
    obtain ⟨e, he, hmem, hd⟩ := at_some (l := l) (i := i) (by omega)
    have hre := Ex.rows_at he
    have hi2 := Ex.sizes_ge (l.take i)
    rw [List.length_take, Nat.min_eq_left (by omega)] at hi2
    have hw : IntKind.i64.wrap ((i : Int) + 1) = ((i + 1 : Nat) : Int) := by rw [wi (by omega) (by omega)]; rfl
    obtain ⟨r, hr, hr0, hr1, hr2⟩ := hf e hmem (left - (1 + Ex.sizes (l.take i))) (by omega) (by omega)
    obtain ⟨c0, c1, c2, c3, hc⟩ := e.cells_shape
    rw [hc] at hr hre
    have hw1 : IntKind.i64.wrap (left - (1 + (Ex.sizes (l.take i) : Int))) = left - (1 + (Ex.sizes (l.take i) : Int)) := wi (by omega) (by omega)
    have hw2 : IntKind.i64.wrap (1 + (Ex.sizes (l.take i) : Int) + r) = 1 + (Ex.sizes (l.take i) : Int) + r := wi (by omega) (by omega)
    have hw3 : IntKind.i64.wrap (left + 1) = left + 1 := wi (by omega) (by omega)
    have hnext := take_next he
    rw [l_flotsamref16_expr_0, M_loop, ← l_flotsamref16_expr_0]
    by_cases hgt : left < 1 + (Ex.sizes (l.take i) : Int) + r
    · simp [b_flotsamref16_expr_0, h1, h2, h5, h6, hi, Ex.rows_len, hre, hw1, hr, hw2, hgt, hw3, lt_flotsamref16_expr]
      exact hret _ (by simp)
    · obtain ⟨hr3, hr4⟩ := hr2 (by omega)
      have hsz : 1 + (Ex.sizes (l.take i) : Int) + r = 1 + (Ex.sizes (l.take (i + 1)) : Int) := by
        rw [hnext, Ex.sizes_append]; simp only [Ex.sizes]; omega
      simp [b_flotsamref16_expr_0, h1, h2, h5, h6, hi, Ex.rows_len, hre, hw1, hr, hw2, hgt, hw, lt_flotsamref16_expr]
      refine ih (i + 1) _ (by omega) (by omega) (by rw [hnext, Ex.txts_append]; exact ⟨ht, hr4, trivial⟩) (by simp [h1]) (by simp [h2]) (by simp [hsz]) (by simp)

theorem expr_ok : ∀ (n : Nat) (e : Ex), e.size ≤ n → SzE e := by
  intro n
  induction n with
  | zero => intro e h; cases e; simp only [Ex.size] at h; omega
  | succ n ih =>
    intro e h left hl0 hl1
    obtain ⟨op, w, s, x⟩ := e
    simp only [Ex.size] at h
    have hw3 : IntKind.i64.wrap (left + 1) = left + 1 := wi (by omega) (by omega)
    rw [eval_M rfl rfl t_flotsamref16_expr rfl]
    by_cases h1 : left < 1
    · refine ⟨left + 1, ?_, by omega, by omega, fun h => by omega⟩
      simp [c_flotsamref16_expr, Ex.cells, h1, hw3]
    · by_cases h2 : 300 < s.length
      · have h2' : (300 : Int) < s.length := by omega
        refine ⟨left + 1, ?_, by omega, by omega, fun h => by omega⟩
        simp [c_flotsamref16_expr, Ex.cells, h1, h2', hw3]
      · have h2' : ¬ (300 : Int) < s.length := by omega
        simp [c_flotsamref16_expr, Ex.cells, h1, h2']
        refine expr_loop _ _ _ x left hl1 (fun e he => ih e (by have := Ex.sizes_mem he; omega)) (fun o => ∃ r : Int, o = some (.int .i64 r, []) ∧ -1000 ≤ r ∧ r ≤ 1001 ∧ (r ≤ left → r = (Ex.mk op w s x).size ∧ (Ex.mk op w s x).txt)) _ (fun φ' g => ?_) (fun φ' g hle ht => ?_) x.length 0 _ (by omega) (by simp [Ex.sizes]; omega) (by simp [Ex.txts]) (by simp) (by simp) (by simp [Ex.sizes]) (by simp)
        · exact ⟨left + 1, by simp [g], by omega, by omega, fun h => by omega⟩
        · refine ⟨1 + Ex.sizes x, by simp [r_flotsamref16_expr_0, g], by omega, by omega, fun h => ⟨by simp [Ex.size], ?_⟩⟩
          simp only [Ex.txt]
          exact ⟨by omega, ht⟩


/-- The expressions of a statement. -/
theorem block_inner (l : List Sm) (i0 : Nat) (op : Int) (s : List UInt8) (w : Int) (x : List Ex) (b c : List Sm) (g : Bool) (hi0 : (i0 : Int) < l.length) (hrow : (Sm.rows l)[i0]? = some (Sm.cells (.mk op s w x b c g))) (left n0 : Int) (hl0 : -1000 ≤ left) (h1l : left ≤ 1000) (hn0 : 0 ≤ n0) (Q : Option (V × Heap) → Prop) (k : List Item)
    (hret : ∀ φ', Fr.get φ' 4 = .int .i64 (left + 1) → Q (retK k φ' []))
    (hexit : ∀ φ', Fr.get φ' 0 = .sl 7 (Sm.rows l) → Fr.get φ' 1 = .int .i64 left → Fr.get φ' 6 = .int .i64 i0 → Fr.get φ' 5 = .int .i64 (n0 + Ex.sizes x) → n0 + (Ex.sizes x : Int) ≤ left → Ex.txts x → Q (M (eval tbl noExt) k φ' [])) :
    ∀ (j i : Nat) (φ : Fr), i + j = x.length → n0 + (Ex.sizes (x.take i) : Int) ≤ left → Ex.txts (x.take i) → Fr.get φ 0 = .sl 7 (Sm.rows l) → Fr.get φ 1 = .int .i64 left → Fr.get φ 6 = .int .i64 i0 → Fr.get φ 5 = .int .i64 (n0 + Ex.sizes (x.take i)) → Fr.get φ 7 = .int .i64 i →
      Q (M (eval tbl noExt) (.code l_flotsamref16_block_0 :: .blk 2 :: k) φ []) := by
  simp only [Sm.cells] at hrow
  intro j
  induction j with
  | zero =>
    intro i φ hj hle ht h0 h1 h6 h5 h7
    have hi : ¬ ((i : Int) < x.length) := by omega
    rw [List.take_of_length_le (by omega)] at hle ht h5
    rw [l_flotsamref16_block_0, M_loop, ← l_flotsamref16_block_0]
    simp [b_flotsamref16_block_0, h0, h1, h5, h6, h7, hi, hi0, hrow, Ex.rows_len, Sm.rows_len]
    exact hexit _ (by simp [h0]) (by simp [h1]) (by simp [h6]) (by simp [h5]) hle ht
  | succ j ih =>
    intro i φ hj hle ht h0 h1 h6 h5 h7
    have hi : (i : Int) < x.length := by omega
    obtain ⟨e, he, hmem, hd⟩ := at_some (l := x) (i := i) (by omega)
    have hre := Ex.rows_at he
    have hi2 := Ex.sizes_ge (x.take i)
    rw [List.length_take, Nat.min_eq_left (by omega)] at hi2
    have hw : IntKind.i64.wrap ((i : Int) + 1) = ((i + 1 : Nat) : Int) := by rw [wi (by omega) (by omega)]; rfl
    obtain ⟨r, hr, hr0, hr1, hr2⟩ := expr_ok e.size e (Nat.le_refl _) (left - (n0 + Ex.sizes (x.take i))) (by omega) (by omega)
    obtain ⟨c0, c1, c2, c3, hc⟩ := e.cells_shape
    rw [hc] at hr hre
    have hw1 : IntKind.i64.wrap (left - (n0 + (Ex.sizes (x.take i) : Int))) = left - (n0 + (Ex.sizes (x.take i) : Int)) := wi (by omega) (by omega)
    have hw2 : IntKind.i64.wrap (n0 + (Ex.sizes (x.take i) : Int) + r) = n0 + (Ex.sizes (x.take i) : Int) + r := wi (by omega) (by omega)
    have hw3 : IntKind.i64.wrap (left + 1) = left + 1 := wi (by omega) (by omega)
    have hnext := take_next he
    rw [l_flotsamref16_block_0, M_loop, ← l_flotsamref16_block_0]
    by_cases hgt : left < n0 + (Ex.sizes (x.take i) : Int) + r
    · simp [b_flotsamref16_block_0, h0, h1, h5, h6, h7, hi, hi0, hrow, Ex.rows_len, Sm.rows_len, hre, hw1, hr, hw2, hgt, hw3, lt_flotsamref16_expr]
      exact hret _ (by simp)
    · obtain ⟨hr3, hr4⟩ := hr2 (by omega)
      have hsz : n0 + (Ex.sizes (x.take i) : Int) + r = n0 + (Ex.sizes (x.take (i + 1)) : Int) := by
        rw [hnext, Ex.sizes_append]; simp only [Ex.sizes]; omega
      simp [b_flotsamref16_block_0, h0, h1, h5, h6, h7, hi, hi0, hrow, Ex.rows_len, Sm.rows_len, hre, hw1, hr, hw2, hgt, hw, lt_flotsamref16_expr]
      refine ih (i + 1) _ (by omega) (by omega) (by rw [hnext, Ex.txts_append]; exact ⟨ht, hr4, trivial⟩) (by simp [h0]) (by simp [h1]) (by simp [h6]) (by simp [hsz]) (by simp)

theorem sblock_loop (l : List Sm) (left : Int) (hl0 : -1000 ≤ left) (h1l : left ≤ 1000) (hf : ∀ e ∈ l, ∀ b ∈ e.blocks, SzB b) (Q : Option (V × Heap) → Prop) (k : List Item)
    (hret : ∀ φ', Fr.get φ' 4 = .int .i64 (left + 1) → Q (retK k φ' []))
    (hexit : ∀ φ', Fr.get φ' 5 = .int .i64 (Sm.sizes l) → (Sm.sizes l : Int) ≤ 1000 → Sm.txts l → Q (M (eval tbl noExt) k φ' [])) :
    ∀ (j i : Nat) (φ : Fr), i + j = l.length → (Sm.sizes (l.take i) : Int) ≤ 1000 → Sm.txts (l.take i) → Fr.get φ 0 = .sl 7 (Sm.rows l) → Fr.get φ 1 = .int .i64 left → Fr.get φ 5 = .int .i64 (Sm.sizes (l.take i)) → Fr.get φ 6 = .int .i64 i →
      Q (M (eval tbl noExt) (.code l_flotsamref16_block_1 :: .blk 0 :: k) φ []) := by
  intro j
  induction j with
  | zero =>
    intro i φ hj hle ht h0 h1 h5 h6
    have hi : ¬ ((i : Int) < l.length) := by omega
    rw [List.take_of_length_le (by omega)] at hle ht h5
    rw [l_flotsamref16_block_1, M_loop, ← l_flotsamref16_block_1]
    simp [b_flotsamref16_block_1, h0, h1, h5, h6, hi, Sm.rows_len]
    exact hexit _ (by simp [h5]) hle ht
  | succ j ih =>
    intro i φ hj hle ht h0 h1 h5 h6
    have hi : (i : Int) < l.length := by omega
    obtain ⟨e, he, hmem, hd⟩ := at_some (l := l) (i := i) (by omega)
    have hre := Sm.rows_at he
    have hi2 := Sm.sizes_ge (l.take i)
    rw [List.length_take, Nat.min_eq_left (by omega)] at hi2
    have hw : IntKind.i64.wrap ((i : Int) + 1) = ((i + 1 : Nat) : Int) := by rw [wi (by omega) (by omega)]; rfl
    have hfe := hf e hmem
    have hnext := take_next he
    obtain ⟨op, s, w, x, b, c, g⟩ := e
    have hre' := hre
    simp only [Sm.cells] at hre
    have hw1 : IntKind.i64.wrap ((Sm.sizes (l.take i) : Int) + 1) = (Sm.sizes (l.take i) : Int) + 1 := wi (by omega) (by omega)
    have hw3 : IntKind.i64.wrap (left + 1) = left + 1 := wi (by omega) (by omega)
    rw [l_flotsamref16_block_1, M_loop, ← l_flotsamref16_block_1]
    by_cases hgt : left < (Sm.sizes (l.take i) : Int) + 1
    · simp [b_flotsamref16_block_1, h0, h1, h5, h6, hi, Sm.rows_len, hre, hw1, hgt, hw3]
      exact hret _ (by simp)
    by_cases hs : 300 < s.length
    · have hs' : (300 : Int) < s.length := by omega
      simp [b_flotsamref16_block_1, h0, h1, h5, h6, hi, Sm.rows_len, hre, hw1, hgt, hw3, hs']
      exact hret _ (by simp)
    have hs' : ¬ (300 : Int) < s.length := by omega
    simp [b_flotsamref16_block_1, h0, h1, h5, h6, hi, Sm.rows_len, hre, hw1, hgt, hw3, hs']
    refine block_inner l i op s w x b c g hi hre' left ((Sm.sizes (l.take i) : Int) + 1) hl0 h1l (by omega) Q _ (fun φ' q => ?_) (fun φ' q0 q1 q6 q5 qle qt => ?_) x.length 0 _ (by omega) (by simp [Ex.sizes]; omega) (by simp [Ex.txts]) (by simp [h0]) (by simp [h1]) (by simp [h6]) (by simp [Ex.sizes]) (by simp)
    · simp
      exact hret _ q
    · obtain ⟨r, hr, hr0, hr1, hr2⟩ := hfe b (by simp [Sm.blocks]) (left - ((Sm.sizes (l.take i) : Int) + 1 + Ex.sizes x)) (by omega) (by omega)
      have hw4 : IntKind.i64.wrap (left - ((Sm.sizes (l.take i) : Int) + 1 + Ex.sizes x)) = left - ((Sm.sizes (l.take i) : Int) + 1 + Ex.sizes x) := wi (by omega) (by omega)
      have hw5 : IntKind.i64.wrap ((Sm.sizes (l.take i) : Int) + 1 + Ex.sizes x + r) = (Sm.sizes (l.take i) : Int) + 1 + Ex.sizes x + r := wi (by omega) (by omega)
      by_cases hgt2 : left < (Sm.sizes (l.take i) : Int) + 1 + Ex.sizes x + r
      · simp [r_flotsamref16_block_0, q0, q1, q5, q6, hi, Sm.rows_len, hre, hw4, hr, hw5, hgt2, hw3, lt_flotsamref16_block]
        exact hret _ (by simp)
      obtain ⟨hr3, hr4⟩ := hr2 (by omega)
      obtain ⟨t, ht1, ht0, ht2, ht3⟩ := hfe c (by simp [Sm.blocks]) (left - ((Sm.sizes (l.take i) : Int) + 1 + Ex.sizes x + r)) (by omega) (by omega)
      have hw6 : IntKind.i64.wrap (left - ((Sm.sizes (l.take i) : Int) + 1 + Ex.sizes x + r)) = left - ((Sm.sizes (l.take i) : Int) + 1 + Ex.sizes x + r) := wi (by omega) (by omega)
      have hw7 : IntKind.i64.wrap ((Sm.sizes (l.take i) : Int) + 1 + Ex.sizes x + r + t) = (Sm.sizes (l.take i) : Int) + 1 + Ex.sizes x + r + t := wi (by omega) (by omega)
      by_cases hgt3 : left < (Sm.sizes (l.take i) : Int) + 1 + Ex.sizes x + r + t
      · simp [r_flotsamref16_block_0, q0, q1, q5, q6, hi, Sm.rows_len, hre, hw4, hr, hw5, hgt2, hw3, lt_flotsamref16_block, hw6, ht1, hw7, hgt3]
        exact hret _ (by simp)
      obtain ⟨ht4, ht5⟩ := ht3 (by omega)
      have hsz : (Sm.sizes (l.take i) : Int) + 1 + Ex.sizes x + r + t = (Sm.sizes (l.take (i + 1)) : Int) := by
        rw [hnext, _root_.Go.AM.Spec.sizes_append]; simp only [Sm.sizes, Sm.size]; omega
      simp [r_flotsamref16_block_0, q0, q1, q5, q6, hi, Sm.rows_len, hre, hw4, hr, hw5, hgt2, hw3, lt_flotsamref16_block, hw6, ht1, hw7, hgt3, r_flotsamref16_block_1, hw]
      refine ih (i + 1) _ (by omega) (by omega) (by rw [hnext, Sm.txts_append]; exact ⟨ht, ⟨by omega, qt, hr4, ht5⟩, trivial⟩) (by simp [q0]) (by simp [q1]) (by simp [hsz]) (by simp)

theorem block_step (l : List Sm) (hf : ∀ e ∈ l, ∀ b ∈ e.blocks, SzB b) : SzB l := by
  intro left hl0 hl1
  rw [eval_M rfl rfl t_flotsamref16_block rfl]
  simp [c_flotsamref16_block]
  refine sblock_loop l left hl0 hl1 hf (fun o => ∃ r : Int, o = some (.int .i64 r, []) ∧ -1000 ≤ r ∧ r ≤ 1001 ∧ (r ≤ left → r = Sm.sizes l ∧ Sm.txts l)) _ (fun φ' g => ?_) (fun φ' g hle ht => ?_) l.length 0 _ (by omega) (by simp [Sm.sizes]) (by simp [Sm.txts]) (by simp) (by simp) (by simp [Sm.sizes]) (by simp)
  · exact ⟨left + 1, by simp [g], by omega, by omega, fun h => by omega⟩
  · exact ⟨Sm.sizes l, by simp [r_flotsamref16_block_2, g], by omega, by omega, fun h => ⟨rfl, ht⟩⟩

theorem block_ok : ∀ (n : Nat) (l : List Sm), Sm.sizes l ≤ n → SzB l := by
  intro n
  induction n with
  | zero =>
    intro l hl
    have h0 : l = [] := by
      have := Sm.sizes_ge l
      exact List.length_eq_zero_iff.1 (by omega)
    subst h0
    exact block_step [] (by simp)
  | succ n ih =>
    intro l hl
    refine block_step l fun e he b hb => ih b ?_
    have h1 := Sm.sizes_mem he
    obtain ⟨op, w, m, ee, b1, b2, g⟩ := e
    simp only [Sm.size] at h1
    simp only [Sm.blocks, List.mem_cons, List.not_mem_nil, or_false] at hb
    rcases hb with rfl | rfl <;> omega


theorem Size_loop0 (p : Pg) (left : Int) (hl0 : 0 ≤ left) (h1l : left ≤ 1000) (hpl : (p.procs.length : Int) ≤ left) (hol : (p.oracles.length : Int) ≤ left) (Q : Option (V × Heap) → Prop) (k : List Item)
    (hret : ∀ φ', Fr.get φ' 4 = .int .i64 (left + 1) → Q (retK k φ' [some p.cells]))
    (hexit : ∀ φ' (n : Int), n = p.procs.length + p.oracles.length + Sm.sizes p.bodies.flatten → n ≤ left → (∀ x ∈ p.procs, x.1.length ≤ 300 ∧ Sm.txts x.2) → Fr.get φ' 1 = .int .i64 left → Fr.get φ' 2 = .ptr 0 0 → Fr.get φ' 5 = .int .i64 n → Q (M (eval tbl noExt) k φ' [some p.cells])) :
    ∀ (j i : Nat) (φ : Fr) (n : Int), i + j = p.procs.length → n = p.procs.length + p.oracles.length + Sm.sizes (p.bodies.take i).flatten → (n ≤ left ∨ i = 0) → (∀ x ∈ p.procs.take i, x.1.length ≤ 300 ∧ Sm.txts x.2) → Fr.get φ 1 = .int .i64 left → Fr.get φ 2 = .ptr 0 0 → Fr.get φ 5 = .int .i64 n → Fr.get φ 6 = .int .i64 i →
      Q (M (eval tbl noExt) (.code l_flotsamref16_Size_0 :: .blk 0 :: k) φ [some p.cells]) := by
  have hbl : p.bodies.length = p.procs.length := by simp [Pg.bodies]
  intro j
  induction j with
  | zero =>
    intro i φ n hj hn hle ht h1 h2 h5 h6
    have hi : ¬ ((i : Int) < p.procs.length) := by omega
    rw [List.take_of_length_le (by omega)] at hn
    rw [List.take_of_length_le (by omega)] at ht
    have hle' : n ≤ left := by
      rcases hle with h | h
      · exact h
      · have h0 : p.procs = [] := List.length_eq_zero_iff.1 (by omega)
        have h00 : p.bodies = [] := by rw [Pg.bodies, h0]; rfl
        rw [h0, h00] at hn
        simp only [List.length_nil, List.flatten_nil, Sm.sizes] at hn
        omega
    rw [l_flotsamref16_Size_0, M_loop, ← l_flotsamref16_Size_0]
    have hexit' := hexit
    simp only [Pg.cells] at hexit' ⊢
    simp [b_flotsamref16_Size_0, h1, h2, h5, h6, hi, Pg.pcells_len]
    exact hexit' _ n hn hle' ht (by simp [h1]) (by simp [h2]) (by simp [h5])
  | succ j ih =>
    intro i φ n hj hn hle ht h1 h2 h5 h6
    have hi : (i : Int) < p.procs.length := by omega
    obtain ⟨e, he, hmem, hd⟩ := at_some (l := p.procs) (i := i) (by omega)
    have hrow := p.prow he
    have hw : IntKind.i64.wrap ((i : Int) + 1) = ((i + 1 : Nat) : Int) := by rw [wi (by omega) (by omega)]; rfl
    have hb : p.bodies[i]? = some e.2 := by rw [Pg.bodies, List.getElem?_map, he]; rfl
    have hn0 : 0 ≤ n ∧ n ≤ 2000 := by
      rcases hle with h | h
      · omega
      · subst h
        simp only [List.take_zero, List.flatten_nil, Sm.sizes] at hn
        omega
    have hn1 : n - left ≤ 1000 := by
      rcases hle with h | h
      · omega
      · subst h
        simp only [List.take_zero, List.flatten_nil, Sm.sizes] at hn
        omega
    obtain ⟨r, hr, hr0, hr1, hr2⟩ := block_ok (Sm.sizes e.2) e.2 (Nat.le_refl _) (left - n) (by omega) (by omega)
    have hw1 : IntKind.i64.wrap (left - n) = left - n := wi (by omega) (by omega)
    have hw2 : IntKind.i64.wrap (n + r) = n + r := wi (by omega) (by omega)
    have hw3 : IntKind.i64.wrap (left + 1) = left + 1 := wi (by omega) (by omega)
    have hnext := take_next hb
    have hnext2 := take_next he
    rw [l_flotsamref16_Size_0, M_loop, ← l_flotsamref16_Size_0]
    have hret' := hret
    simp only [Pg.cells] at hret' ih ⊢
    by_cases hs : 300 < e.1.length
    · have hs' : (300 : Int) < e.1.length := by omega
      simp [b_flotsamref16_Size_0, h1, h2, h5, h6, hi, Pg.pcells_len, hrow, hw1, hr, hw2, hs', hw3, lt_flotsamref16_block]
      exact hret' _ (by simp)
    have hs' : ¬ (300 : Int) < e.1.length := by omega
    by_cases hgt : left < n + r
    · simp [b_flotsamref16_Size_0, h1, h2, h5, h6, hi, Pg.pcells_len, hrow, hw1, hr, hw2, hs', hw3, hgt, lt_flotsamref16_block]
      exact hret' _ (by simp)
    · obtain ⟨hr3, hr4⟩ := hr2 (by omega)
      simp [b_flotsamref16_Size_0, h1, h2, h5, h6, hi, Pg.pcells_len, hrow, hw1, hr, hw2, hs', hw, hgt, lt_flotsamref16_block]
      refine ih (i + 1) _ (n + r) (by omega) ?_ (Or.inl (by omega)) ?_ (by simp [h1]) (by simp [h2]) (by simp) (by simp)
      · rw [hnext, List.flatten_append, Go.AM.Spec.sizes_append]
        simp only [List.flatten_cons, List.flatten_nil, List.append_nil]
        omega
      · rw [hnext2]
        intro x hx
        rcases List.mem_append.1 hx with h | h
        · exact ht x h
        · rw [List.mem_singleton.1 h]
          exact ⟨by omega, hr4⟩

theorem Size_loop1 (p : Pg) (left N : Int) (hl0 : 0 ≤ left) (h1l : left ≤ 1000) (hol : (p.oracles.length : Int) ≤ left) (hN : 0 ≤ N) (Q : Option (V × Heap) → Prop) (k : List Item)
    (hret : ∀ φ', Fr.get φ' 4 = .int .i64 (left + 1) → Q (retK k φ' [some p.cells]))
    (hexit : ∀ φ' (n : Int), n ≤ 10000 → (n ≤ left → n = N + Ex.sizes p.exprs ∧ ∀ x ∈ p.oracles, x.1.length ≤ 300 ∧ x.2.txt) → Fr.get φ' 5 = .int .i64 n → Q (M (eval tbl noExt) k φ' [some p.cells])) :
    ∀ (j i : Nat) (φ : Fr) (n : Int), i + j = p.oracles.length → 0 ≤ n → n ≤ 10000 → (n ≤ left → n = N + Ex.sizes (p.exprs.take i) ∧ ∀ x ∈ p.oracles.take i, x.1.length ≤ 300 ∧ x.2.txt) → Fr.get φ 1 = .int .i64 left → Fr.get φ 2 = .ptr 0 0 → Fr.get φ 5 = .int .i64 n → Fr.get φ 7 = .int .i64 i →
      Q (M (eval tbl noExt) (.code l_flotsamref16_Size_1 :: .blk 2 :: k) φ [some p.cells]) := by
  have hbl : p.exprs.length = p.oracles.length := by simp [Pg.exprs]
  intro j
  induction j with
  | zero =>
    intro i φ n hj hn0 hn hle h1 h2 h5 h7
    have hi : ¬ ((i : Int) < p.oracles.length) := by omega
    rw [List.take_of_length_le (by omega), List.take_of_length_le (by omega)] at hle
    rw [l_flotsamref16_Size_1, M_loop, ← l_flotsamref16_Size_1]
    have hexit' := hexit
    simp only [Pg.cells] at hexit' ⊢
    simp [b_flotsamref16_Size_1, h1, h2, h5, h7, hi, Pg.ocells_len]
    exact hexit' _ n hn hle (by simp [h5])
  | succ j ih =>
    intro i φ n hj hn0 hn hle h1 h2 h5 h7
    have hi : (i : Int) < p.oracles.length := by omega
    have hexit' := hexit
    have hret' := hret
    simp only [Pg.cells] at hret' hexit' ih ⊢
    rw [l_flotsamref16_Size_1, M_loop, ← l_flotsamref16_Size_1]
    by_cases hgt : left < n
    · have hgt' : ¬ n ≤ left := by omega
      simp [b_flotsamref16_Size_1, h1, h2, h5, h7, hi, Pg.ocells_len, hgt']
      exact hexit' _ n hn (fun h => by omega) (by simp [h5])
    obtain ⟨hn1, hn2⟩ := hle (by omega)
    have hgt' : n ≤ left := by omega
    obtain ⟨e, he, hmem, hd⟩ := at_some (l := p.oracles) (i := i) (by omega)
    have hrow := p.orow he
    have hw : IntKind.i64.wrap ((i : Int) + 1) = ((i + 1 : Nat) : Int) := by rw [wi (by omega) (by omega)]; rfl
    have hb : p.exprs[i]? = some e.2 := by rw [Pg.exprs, List.getElem?_map, he]; rfl
    obtain ⟨r, hr, hr0, hr1, hr2⟩ := expr_ok e.2.size e.2 (Nat.le_refl _) (left - n) (by omega) (by omega)
    obtain ⟨c0, c1, c2, c3, hc⟩ := e.2.cells_shape
    rw [hc] at hr hrow
    have hw1 : IntKind.i64.wrap (left - n) = left - n := wi (by omega) (by omega)
    have hw2 : IntKind.i64.wrap (n + r) = n + r := wi (by omega) (by omega)
    have hw3 : IntKind.i64.wrap (left + 1) = left + 1 := wi (by omega) (by omega)
    have hnext := take_next hb
    have hnext2 := take_next he
    by_cases hs : 300 < e.1.length
    · have hs' : (300 : Int) < e.1.length := by omega
      simp [b_flotsamref16_Size_1, h1, h2, h5, h7, hi, Pg.ocells_len, hgt', hrow, hw1, hr, hw2, hs', hw3, lt_flotsamref16_expr]
      exact hret' _ (by simp)
    have hs' : ¬ (300 : Int) < e.1.length := by omega
    simp [b_flotsamref16_Size_1, h1, h2, h5, h7, hi, Pg.ocells_len, hgt', hrow, hw1, hr, hw2, hs', hw, lt_flotsamref16_expr]
    have hr5 : 0 ≤ r := by
      by_cases h : r ≤ left - n
      · have := (hr2 h).1; omega
      · omega
    refine ih (i + 1) _ (n + r) (by omega) (by omega) (by omega) (fun h => ?_) (by simp [h1]) (by simp [h2]) (by simp) (by simp)
    obtain ⟨hr3, hr4⟩ := hr2 (by omega)
    constructor
    · rw [hnext, Ex.sizes_append]
      simp only [Ex.sizes]
      omega
    · rw [hnext2]
      intro x hx
      rcases List.mem_append.1 hx with h | h
      · exact hn2 x h
      · rw [List.mem_singleton.1 h]
        exact ⟨by omega, hr4⟩

theorem Size_eq (p : Pg) (left : Int) (hl0 : 0 ≤ left) (h1l : left ≤ 1000) : ∃ r : Int, eval tbl noExt n_flotsamref16_Size [.agg p.cells, .int .i64 left] [] = some (.int .i64 r, []) ∧ (r ≤ left → (p.size : Int) ≤ left ∧ p.txt) := by
  have hw3 : IntKind.i64.wrap (left + 1) = left + 1 := wi (by omega) (by omega)
  have hmin : min left 1000 = left := by omega
  have hsz := p.size_eq
  rw [eval_M rfl rfl t_flotsamref16_Size rfl]
  by_cases hp : left < p.procs.length
  · refine ⟨left + 1, ?_, fun h => by omega⟩
    simp [c_flotsamref16_Size, Pg.cells, hmin, Pg.pcells_len, hp, hw3]
  by_cases ho : left < p.oracles.length
  · refine ⟨left + 1, ?_, fun h => by omega⟩
    simp [c_flotsamref16_Size, Pg.cells, hmin, Pg.pcells_len, Pg.ocells_len, hp, ho, hw3]
  have hw4 : IntKind.i64.wrap ((p.procs.length : Int) + p.oracles.length) = (p.procs.length : Int) + p.oracles.length := wi (by omega) (by omega)
  simp [c_flotsamref16_Size, Pg.cells, hmin, Pg.pcells_len, Pg.ocells_len, hp, ho, hw3, hw4]
  refine Size_loop0 p left hl0 h1l (by omega) (by omega) (fun o => ∃ r : Int, o = some (.int .i64 r, []) ∧ (r ≤ left → (p.size : Int) ≤ left ∧ p.txt)) _ (fun φ' g => ?_) (fun φ' n hn hle ht g1 g2 g5 => ?_) p.procs.length 0 _ ((p.procs.length : Int) + p.oracles.length) (by omega) (by simp [Sm.sizes]) (Or.inr rfl) (by simp) (by simp) (by simp) (by simp) (by simp)
  · exact ⟨left + 1, by simp [g], fun h => by omega⟩
  · have hn0 : 0 ≤ n := by omega
    obtain ⟨r, hr, hr0, hr1, hr2⟩ := block_ok (Sm.sizes p.main) p.main (Nat.le_refl _) (left - n) (by omega) (by omega)
    have hw5 : IntKind.i64.wrap (left - n) = left - n := wi (by omega) (by omega)
    have hw6 : IntKind.i64.wrap (n + r) = n + r := wi (by omega) (by omega)
    have hr5 : 0 ≤ r := by
      by_cases h : r ≤ left - n
      · have := (hr2 h).1; omega
      · omega
    have fin : ∀ (φ' : Fr) (m : Int), Fr.get φ' 5 = .int .i64 m → (m ≤ left → (p.size : Int) ≤ left ∧ p.txt) → ∃ r : Int, M (eval tbl noExt) [.code r_flotsamref16_Size_0, .fin [.t 4] 0] φ' [some p.cells] = some (.int .i64 r, []) ∧ (r ≤ left → (p.size : Int) ≤ left ∧ p.txt) := by
      intro φ' m h5 h
      exact ⟨m, by simp [r_flotsamref16_Size_0, h5], h⟩
    by_cases hgt : left < n + r
    · have hgt' : ¬ n + r ≤ left := by omega
      simp only [Pg.cells] at fin ⊢
      simp [r_flotsamref16_Size_1, g1, g2, g5, hw5, hr, hw6, hgt', lt_flotsamref16_block]
      refine Size_loop1 p left (left + 1) hl0 h1l (by omega) (by omega) (fun o => ∃ r : Int, o = some (.int .i64 r, []) ∧ (r ≤ left → (p.size : Int) ≤ left ∧ p.txt)) _ (fun φ' g => ?_) (fun φ' m hm0 hm hg5 => ?_) p.oracles.length 0 _ (n + r) (by omega) (by omega) (by omega) (fun h => by omega) (by simp [g1]) (by simp [g2]) (by simp) (by simp)
      · exact ⟨left + 1, by simp [g], fun h => by omega⟩
      · refine ⟨m, by simp [r_flotsamref16_Size_0, hg5], fun h => ?_⟩
        have := (hm h).1
        omega
    · have hgt' : n + r ≤ left := by omega
      obtain ⟨hr3, hr4⟩ := hr2 (by omega)
      obtain ⟨t, ht1, ht0, ht2, ht3⟩ := block_ok (Sm.sizes p.recover) p.recover (Nat.le_refl _) (left - (n + r)) (by omega) (by omega)
      have hw7 : IntKind.i64.wrap (left - (n + r)) = left - (n + r) := wi (by omega) (by omega)
      have hw8 : IntKind.i64.wrap (n + r + t) = n + r + t := wi (by omega) (by omega)
      have ht5 : 0 ≤ t := by
        by_cases h : t ≤ left - (n + r)
        · have := (ht3 h).1; omega
        · omega
      simp only [Pg.cells] at fin ⊢
      simp [r_flotsamref16_Size_1, g1, g2, g5, hw5, hr, hw6, hgt', lt_flotsamref16_block, hw7, ht1, hw8]
      refine Size_loop1 p left (if left < n + r + t then left + 1 else n + r + t) hl0 h1l (by omega) (by split <;> omega) (fun o => ∃ r : Int, o = some (.int .i64 r, []) ∧ (r ≤ left → (p.size : Int) ≤ left ∧ p.txt)) _ (fun φ' g => ?_) (fun φ' m hm0 hm hg5 => ?_) p.oracles.length 0 _ (n + r + t) (by omega) (by omega) (by omega) (fun h => by rw [if_neg (by omega)]; simp [Ex.sizes]) (by simp [g1]) (by simp [g2]) (by simp) (by simp)
      · exact ⟨left + 1, by simp [g], fun h => by omega⟩
      · refine ⟨m, by simp [r_flotsamref16_Size_0, hg5], fun h => ?_⟩
        obtain ⟨hm1, hm2⟩ := hm h
        by_cases hlt : left < n + r + t
        · rw [if_pos hlt] at hm1; omega
        · rw [if_neg hlt] at hm1
          obtain ⟨ht6, ht7⟩ := ht3 (by omega)
          exact ⟨by omega, ht, hr4, ht7, hm2⟩

theorem Small_eq (p : Pg) : ∃ b : Bool, eval tbl noExt n_flotsamlaw16_Small [.agg p.cells] [] = some (.bool b, []) ∧ (b = true → p.size ≤ 600 ∧ p.txt) := by
  obtain ⟨r, hr, h⟩ := Size_eq p 600 (by omega) (by omega)
  rw [eval_M rfl rfl t_flotsamlaw16_Small rfl]
  refine ⟨decide (r ≤ 600), ?_, fun hb => ?_⟩
  · simp only [Pg.cells] at hr ⊢
    simp [c_flotsamlaw16_Small, hr, lt_flotsamref16_Size]
  · obtain ⟨h1, h2⟩ := h (of_decide_eq_true hb)
    exact ⟨by omega, h2⟩

end Go.AM.Spec

namespace Go.AM.Spec
set_option linter.unusedVariables false
set_option linter.unusedSimpArgs false

mutual
def Ex.fit : Ex → Prop
  | .mk op n s x => Fit op ∧ Fit n ∧ Len s.length ∧ Len x.length ∧ Ex.fits x
def Ex.fits : List Ex → Prop
  | [] => True
  | e :: l => e.fit ∧ Ex.fits l
end
mutual
def Sm.fit : Sm → Prop
  | .mk op s n e b c _ => Fit op ∧ Len s.length ∧ Fit n ∧ (Len e.length ∧ Ex.fits e) ∧ (Len b.length ∧ Sm.fits b) ∧ (Len c.length ∧ Sm.fits c)
def Sm.fits : List Sm → Prop
  | [] => True
  | e :: l => e.fit ∧ Sm.fits l
end
structure Pg.fit (p : Pg) : Prop where
  pl : Len p.procs.length
  ps : ∀ x ∈ p.procs, Len x.1.length ∧ Len x.2.length ∧ Sm.fits x.2
  ml : Len p.main.length
  ms : Sm.fits p.main
  rl : Len p.recover.length
  rs : Sm.fits p.recover
  ol : Len p.oracles.length
  os : ∀ x ∈ p.oracles, Len x.1.length ∧ x.2.fit

theorem Ex.fits_mem {l : List Ex} : Ex.fits l ↔ ∀ e ∈ l, e.fit := by
  induction l with
  | nil => simp [Ex.fits]
  | cons e l ih => simp [Ex.fits, ih]
theorem Sm.fits_mem {l : List Sm} : Sm.fits l ↔ ∀ e ∈ l, e.fit := by
  induction l with
  | nil => simp [Sm.fits]
  | cons e l ih => simp [Sm.fits, ih]

section
variable {P : Program}

theorem ex_list {rows : List (List V)} (h : ∀ r ∈ rows, ∃ e : Ex, r = e.cells ∧ e.fit) : ∃ l : List Ex, rows = Ex.rows l ∧ Ex.fits l ∧ l.length = rows.length := by
  induction rows with
  | nil => exact ⟨[], rfl, trivial, rfl⟩
  | cons r rows ih =>
    obtain ⟨e, rfl, he⟩ := h r (by simp)
    obtain ⟨l, rfl, hl, hn⟩ := ih (fun r hr => h r (by simp [hr]))
    exact ⟨e :: l, rfl, ⟨he, hl⟩, by simp [hn]⟩
theorem sm_list {rows : List (List V)} (h : ∀ r ∈ rows, ∃ e : Sm, r = e.cells ∧ e.fit) : ∃ l : List Sm, rows = Sm.rows l ∧ Sm.fits l ∧ l.length = rows.length := by
  induction rows with
  | nil => exact ⟨[], rfl, trivial, rfl⟩
  | cons r rows ih =>
    obtain ⟨e, rfl, he⟩ := h r (by simp)
    obtain ⟨l, rfl, hl, hn⟩ := ih (fun r hr => h r (by simp [hr]))
    exact ⟨e :: l, rfl, ⟨he, hl⟩, by simp [hn]⟩

/-- The types of programs, by number. -/
structure TreeTys (P : Program) (tG tPs tSs tOs tP tO tS tEs tE tI tN tB tT : TypeId) : Prop where
  g : ∃ fs, P.underlying tG = some (.struct fs) ∧ fs.toList.map (·.type) = [tPs, tSs, tSs, tOs]
  ps : P.underlying tPs = some (.slice tP)
  ss : P.underlying tSs = some (.slice tS)
  os : P.underlying tOs = some (.slice tO)
  es : P.underlying tEs = some (.slice tE)
  p : ∃ fs, P.underlying tP = some (.struct fs) ∧ fs.toList.map (·.type) = [tT, tSs]
  o : ∃ fs, P.underlying tO = some (.struct fs) ∧ fs.toList.map (·.type) = [tT, tE]
  s : ∃ fs, P.underlying tS = some (.struct fs) ∧ fs.toList.map (·.type) = [tI, tT, tN, tEs, tSs, tSs, tB]
  e : ∃ fs, P.underlying tE = some (.struct fs) ∧ fs.toList.map (·.type) = [tI, tN, tT, tEs]
  i : P.underlying tI = some (.int .i64)
  n : P.underlying tN = some (.int .i64)
  b : P.underlying tB = some .bool
  t : P.underlying tT = some .string
  cp : P.cellsOf tP = 2
  cs : P.cellsOf tS = 7
  co : P.cellsOf tO = 5
  ce : P.cellsOf tE = 4

variable {tG tPs tSs tOs tP tO tS tEs tE tI tN tB tT : TypeId} (T : TreeTys P tG tPs tSs tOs tP tO tS tEs tE tI tN tB tT)
include T

/-- An expression's cells; a list of expressions. -/
theorem ex_of {t : TypeId} {vs : List V} (h : Ty P t vs) : (t = tE → ∃ e : Ex, vs = e.cells ∧ e.fit) ∧ (t = tEs → ∃ l : List Ex, vs = [.sl 4 (Ex.rows l)] ∧ Len l.length ∧ Ex.fits l) := by
  induction h with
  | bool h b =>
    obtain ⟨fs, hu, _⟩ := T.e
    exact ⟨fun ht => (by subst ht; rw [hu] at h; cases h), fun ht => (by subst ht; rw [T.es] at h; cases h)⟩
  | int h n hw =>
    obtain ⟨fs, hu, _⟩ := T.e
    exact ⟨fun ht => (by subst ht; rw [hu] at h; cases h), fun ht => (by subst ht; rw [T.es] at h; cases h)⟩
  | str h s hs =>
    obtain ⟨fs, hu, _⟩ := T.e
    exact ⟨fun ht => (by subst ht; rw [hu] at h; cases h), fun ht => (by subst ht; rw [T.es] at h; cases h)⟩
  | sl h rows hl hr ih =>
    obtain ⟨fs, hu, _⟩ := T.e
    refine ⟨fun ht => (by subst ht; rw [hu] at h; cases h), fun ht => ?_⟩
    subst ht
    rw [T.es] at h
    cases h
    obtain ⟨l, rfl, hf, hn⟩ := ex_list (fun r hr => (ih r hr).1 rfl)
    exact ⟨l, by rw [T.ce], by rw [hn]; exact hl, hf⟩
  | @struct t' gs h parts hl hp ih =>
    obtain ⟨fs, hu, hfs⟩ := T.e
    refine ⟨fun ht => ?_, fun ht => (by subst ht; rw [T.es] at h; cases h)⟩
    subst ht
    obtain rfl : fs = gs := by
      have := hu.symm.trans h
      simpa using this
    have hL := TyL_of (by rw [hl, Array.length_toList]) (fun j f p h1 h2 => hp j f p (by rw [← Array.getElem?_toList]; exact h1) h2)
    rw [hfs] at hL
    obtain ⟨p0, p1, p2, p3, rfl, h0, h1, h2, h3⟩ := TyL_4 hL
    obtain ⟨op, rfl, w0⟩ := Ty_int_of h0 T.i
    obtain ⟨n, rfl, w1⟩ := Ty_int_of h1 T.n
    obtain ⟨s, rfl, w2⟩ := Ty_str_of h2 T.t
    have hf3 : ∃ f : Field, fs[3]? = some f ∧ f.type = tEs := by
      have : (fs.toList.map (·.type))[3]? = some tEs := by rw [hfs]; rfl
      rw [List.getElem?_map, Option.map_eq_some_iff] at this
      obtain ⟨f, hf, hf'⟩ := this
      exact ⟨f, by rw [← Array.getElem?_toList]; exact hf, hf'⟩
    obtain ⟨f, hf, hft⟩ := hf3
    obtain ⟨l, rfl, hll, hlf⟩ := (ih 3 f p3 hf rfl).2 hft
    exact ⟨.mk op n s l, rfl, w0, w1, w2, hll, hlf⟩
  | arr h parts hl hp ih =>
    obtain ⟨fs, hu, _⟩ := T.e
    exact ⟨fun ht => (by subst ht; rw [hu] at h; cases h), fun ht => (by subst ht; rw [T.es] at h; cases h)⟩

/-- A statement's cells; a list of statements. -/
theorem sm_of {t : TypeId} {vs : List V} (h : Ty P t vs) : (t = tS → ∃ e : Sm, vs = e.cells ∧ e.fit) ∧ (t = tSs → ∃ l : List Sm, vs = [.sl 7 (Sm.rows l)] ∧ Len l.length ∧ Sm.fits l) := by
  induction h with
  | bool h b =>
    obtain ⟨fs, hu, _⟩ := T.s
    exact ⟨fun ht => (by subst ht; rw [hu] at h; cases h), fun ht => (by subst ht; rw [T.ss] at h; cases h)⟩
  | int h n hw =>
    obtain ⟨fs, hu, _⟩ := T.s
    exact ⟨fun ht => (by subst ht; rw [hu] at h; cases h), fun ht => (by subst ht; rw [T.ss] at h; cases h)⟩
  | str h s hs =>
    obtain ⟨fs, hu, _⟩ := T.s
    exact ⟨fun ht => (by subst ht; rw [hu] at h; cases h), fun ht => (by subst ht; rw [T.ss] at h; cases h)⟩
  | sl h rows hl hr ih =>
    obtain ⟨fs, hu, _⟩ := T.s
    refine ⟨fun ht => (by subst ht; rw [hu] at h; cases h), fun ht => ?_⟩
    subst ht
    rw [T.ss] at h
    cases h
    obtain ⟨l, rfl, hf, hn⟩ := sm_list (fun r hr => (ih r hr).1 rfl)
    exact ⟨l, by rw [T.cs], by rw [hn]; exact hl, hf⟩
  | @struct t' gs h parts hl hp ih =>
    obtain ⟨fs, hu, hfs⟩ := T.s
    refine ⟨fun ht => ?_, fun ht => (by subst ht; rw [T.ss] at h; cases h)⟩
    subst ht
    obtain rfl : fs = gs := by
      have := hu.symm.trans h
      simpa using this
    have hL := TyL_of (by rw [hl, Array.length_toList]) (fun j f p h1 h2 => hp j f p (by rw [← Array.getElem?_toList]; exact h1) h2)
    rw [hfs] at hL
    obtain ⟨p0, p1, p2, p3, p4, p5, p6, rfl, h0, h1, h2, h3, h4, h5, h6⟩ := TyL_7 hL
    obtain ⟨op, rfl, w0⟩ := Ty_int_of h0 T.i
    obtain ⟨s, rfl, w1⟩ := Ty_str_of h1 T.t
    obtain ⟨n, rfl, w2⟩ := Ty_int_of h2 T.n
    obtain ⟨e, rfl, w3⟩ := (ex_of T h3).2 rfl
    obtain ⟨k, rfl⟩ := Ty_bool_of h6 T.b
    have hf : ∀ i, fs.toList.map (·.type) = [tI, tT, tN, tEs, tSs, tSs, tB] → i = 4 ∨ i = 5 → ∃ f : Field, fs[i]? = some f ∧ f.type = tSs := by
      intro i hfs hi
      have : (fs.toList.map (·.type))[i]? = some tSs := by rw [hfs]; rcases hi with rfl | rfl <;> rfl
      rw [List.getElem?_map, Option.map_eq_some_iff] at this
      obtain ⟨f, hf, hf'⟩ := this
      exact ⟨f, by rw [← Array.getElem?_toList]; exact hf, hf'⟩
    obtain ⟨f4, hf4, ht4⟩ := hf 4 hfs (.inl rfl)
    obtain ⟨f5, hf5, ht5⟩ := hf 5 hfs (.inr rfl)
    obtain ⟨b, rfl, w4⟩ := (ih 4 f4 p4 hf4 rfl).2 ht4
    obtain ⟨c, rfl, w5⟩ := (ih 5 f5 p5 hf5 rfl).2 ht5
    exact ⟨.mk op s n e b c k, rfl, w0, w1, w2, w3, w4, w5⟩
  | arr h parts hl hp ih =>
    obtain ⟨fs, hu, _⟩ := T.s
    exact ⟨fun ht => (by subst ht; rw [hu] at h; cases h), fun ht => (by subst ht; rw [T.ss] at h; cases h)⟩

theorem pr_list {prows : List (List V)} (hpr : ∀ r ∈ prows, Ty P tP r) : ∃ ps : List (List UInt8 × List Sm), prows = ps.map (fun x => [.str x.1, .sl 7 (Sm.rows x.2)]) ∧ ∀ x ∈ ps, Len x.1.length ∧ Len x.2.length ∧ Sm.fits x.2 := by
    induction prows with
    | nil => exact ⟨[], rfl, by simp⟩
    | cons x l ih =>
      obtain ⟨ps, rfl, hps⟩ := ih (fun r hr => hpr r (by simp [hr]))
      obtain ⟨gs, gu, ggs⟩ := T.p
      have gi := Ty_inv (hpr x (by simp))
      rw [gu] at gi
      obtain ⟨parts, rfl, hL⟩ := gi
      rw [ggs] at hL
      obtain ⟨q0, q1, rfl, k0, k1⟩ := TyL_2 hL
      obtain ⟨s, rfl, w0⟩ := Ty_str_of k0 T.t
      obtain ⟨b, rfl, w1, w2⟩ := (sm_of T k1).2 rfl
      refine ⟨(s, b) :: ps, rfl, ?_⟩
      intro x hx
      rcases List.mem_cons.1 hx with rfl | hx
      · exact ⟨w0, w1, w2⟩
      · exact hps x hx

theorem or_list {orows : List (List V)} (hor : ∀ r ∈ orows, Ty P tO r) : ∃ os : List (List UInt8 × Ex), orows = os.map (fun x => .str x.1 :: x.2.cells) ∧ ∀ x ∈ os, Len x.1.length ∧ x.2.fit := by
    induction orows with
    | nil => exact ⟨[], rfl, by simp⟩
    | cons x l ih =>
      obtain ⟨os, rfl, hos⟩ := ih (fun r hr => hor r (by simp [hr]))
      obtain ⟨gs, gu, ggs⟩ := T.o
      have gi := Ty_inv (hor x (by simp))
      rw [gu] at gi
      obtain ⟨parts, rfl, hL⟩ := gi
      rw [ggs] at hL
      obtain ⟨q0, q1, rfl, k0, k1⟩ := TyL_2 hL
      obtain ⟨s, rfl, w0⟩ := Ty_str_of k0 T.t
      obtain ⟨e, rfl, w1⟩ := (ex_of T k1).1 rfl
      refine ⟨(s, e) :: os, by simp, ?_⟩
      intro x hx
      rcases List.mem_cons.1 hx with rfl | hx
      · exact ⟨w0, w1⟩
      · exact hos x hx

theorem pg_of {vs : List V} (h : Ty P tG vs) : ∃ p : Pg, vs = p.cells ∧ p.fit := by
  obtain ⟨fs, hu, hfs⟩ := T.g
  have hi := Ty_inv h
  rw [hu] at hi
  obtain ⟨parts, rfl, hL⟩ := hi
  rw [hfs] at hL
  obtain ⟨p0, p1, p2, p3, rfl, h0, h1, h2, h3⟩ := TyL_4 hL
  obtain ⟨m, rfl, m1, m2⟩ := (sm_of T h1).2 rfl
  obtain ⟨r, rfl, r1, r2⟩ := (sm_of T h2).2 rfl
  obtain ⟨prows, rfl, pl, hpr⟩ := Ty_sl_of h0 T.ps
  obtain ⟨orows, rfl, ol, hor⟩ := Ty_sl_of h3 T.os
  have hps := pr_list T hpr
  have hos := or_list T hor
  obtain ⟨ps, rfl, hps⟩ := hps
  obtain ⟨os, rfl, hos⟩ := hos
  refine ⟨⟨ps, m, r, os⟩, ?_, ⟨by simpa using pl, hps, m1, m2, r1, r2, by simpa using ol, hos⟩⟩
  rw [T.cp, T.co]
  simp [Pg.cells, Pg.pcells, Pg.ocells]

end
end Go.AM.Spec

namespace Go.AM.Spec
set_option maxRecDepth 10000

theorem knows16' : eval tbl noExt n_flotsamlaw16_knows [] [] = some (.bool true, []) := (eval_iff _ _ _ _ _ _).2 ⟨200, by kernel_rfl⟩

end Go.AM.Spec

namespace Go.AM.Spec
set_option linter.unusedVariables false
set_option linter.unusedSimpArgs false
set_option maxHeartbeats 4000000
set_option maxRecDepth 10000

theorem run_t {p q : Pg} (hp : p.size ≤ 20000) : ∀ (o : List Nat) (d : List Nat) (φ : Fr) (H : Heap), okRun d o = true → Ivs p q d φ H →
    ∃ r, runOps (eval tbl noExt) (o.map fun i => o_flotsamlaw16_TreeSames.getD i default) φ H = some r ∧ ∃ d', (∀ x, x < 8 → x ∈ d') ∧ Ivs p q d' r.1 r.2
  | [], d, φ, H, ho, h => by
    simp only [okRun, List.all_cons, List.all_nil, Bool.and_true, Bool.and_eq_true, List.contains_iff_mem] at ho
    refine ⟨(φ, H), rfl, d, fun x hx => ?_, h⟩
    match x, hx with
    | 0, _ => exact ho.1
    | 1, _ => exact ho.2.1
    | 2, _ => exact ho.2.2.1
    | 3, _ => exact ho.2.2.2.1
    | 4, _ => exact ho.2.2.2.2.1
    | 5, _ => exact ho.2.2.2.2.2.1
    | 6, _ => exact ho.2.2.2.2.2.2.1
    | 7, _ => exact ho.2.2.2.2.2.2.2
    | n + 8, hx => omega
  | k :: o, d, φ, H, ho, h => by
    simp only [okRun, Bool.and_eq_true, decide_eq_true_eq, Bool.not_eq_true', List.all_eq_true, List.contains_iff_mem] at ho
    obtain ⟨⟨⟨hk, hn⟩, hd⟩, ho⟩ := ho
    obtain ⟨φ', H', e, h'⟩ := step_t hp k h hk (fun hm => by rw [← List.contains_iff_mem] at hm; rw [hm] at hn; cases hn) hd
    obtain ⟨r, e2, h2⟩ := run_t hp o (k :: d) φ' H' ho h'
    exact ⟨r, by simp only [List.map_cons, runOps, e]; exact e2, h2⟩

theorem fin_t {p q : Pg} (hp : p.size ≤ 20000) {d : List Nat} {φ : Fr} {H : Heap} (hd : ∀ x, x < 8 → x ∈ d) (h : Ivs p q d φ H) : ∃ H', M (eval tbl noExt) [.code p3_flotsamlaw16_TreeSames, .wfn [.t 4]] φ H = some (.bool true, H') := by
  obtain ⟨i, j, C, S, h⟩ := h
  have d1 := hd 1 (by omega)
  have d4 := hd 4 (by omega)
  have d5 := hd 5 (by omega)
  obtain ⟨a, b, c⟩ := h.g5 d4
  obtain ⟨a2, b2, c2⟩ := h.g6 d5
  rw [if_pos (hd 6 (by omega))] at c
  rw [if_pos (hd 7 (by omega))] at c2
  exact rest_eq p q hp i j φ H ⟨h.g2, a, a2⟩ h.g3 c (h.rep d1) h.nd (fun s hs => by
    obtain ⟨x1, x2, x3, x4⟩ := h.bd s hs
    exact ⟨x2, by omega, x3 d4, x4 d5⟩) h.h0 h.h1 c2

/-! ## Code -/

section
variable {P : Program} {call : CallF} {φ : Fr} {H : Heap} {Q : AExit → Fr → Heap → Prop}

/-- What a look at the open regions finds. -/
def altB (f : Array Oper → Bool) : Code → AK → Bool
  | .region _ ops _, .alt _ => f ops
  | .seq a b, .seq c d => altB f a c && altB f b d
  | .scope b, .seq c d => altB f b (.seq c d)
  | _, .code _ => true
  | _, _ => false

theorem outK_code {c : Code} {a : AC} (h : ∃ e φ' H', exec call a φ H = some (e, φ', H') ∧ Q e φ' H') : OutK P call c (.code a) φ H Q := by
  cases c <;> exact h

theorem outK_seq {f : Array Oper → Bool} {a b : AK} : ∀ {c : Code}, altB f c (.seq a b) = true → (∀ x y, altB f x a = true → altB f y b = true → OutK P call x a φ H fun e φ' H' => (e = .normal → OutK P call y b φ' H' Q) ∧ (e ≠ .normal → Q e φ' H')) → OutK P call c (.seq a b) φ H Q := by
  intro c
  induction c with
  | seq x y _ _ =>
    intro hc h
    simp only [altB, Bool.and_eq_true] at hc
    exact h x y hc.1 hc.2
  | scope x ih =>
    intro hc h
    exact ih (by simpa only [altB] using hc) h
  | _ => intro hc; simp [altB] at hc

theorem outK_alt {f : Array Oper → Bool} {al : List AOper} {c : Code} (hc : altB f c (.alt al) = true) (h : ∀ ops, f ops = true → AltOK call ops al (Q .normal) ops.size (Array.replicate ops.size false) φ H) : OutK P call c (.alt al) φ H Q := by
  cases c with
  | region id ops draw => exact h ops (by simpa only [altB] using hc)
  | _ => simp [altB] at hc

theorem outK_M {c : Code} {a : AC} {res : List ARes} {v : V} {K : Heap} (h : M call [.code a, .wfn res] φ H = some (v, K)) : OutK P call c (.code a) φ H fun e φ' H' => ∃ H'', wideEnd res (e, φ', H') = some (v, H'') := by
  refine outK_code ?_
  rw [M] at h
  match hx : exec call a φ H with
  | none => rw [hx] at h; cases h
  | some (.normal, φ', H') =>
    rw [hx] at h
    simp only [M_wfn] at h
    exact ⟨_, _, _, rfl, K, h⟩
  | some (.ret, φ', H') =>
    rw [hx] at h
    simp only [retK_wfn] at h
    exact ⟨_, _, _, rfl, K, h⟩
  | some (.exit i, φ', H') =>
    rw [hx] at h
    simp [exitK] at h
end

def regB (ops : Array Oper) : Bool := endsB ops ops.size (Array.replicate ops.size false) && (ordersOf ops ops.size (Array.replicate ops.size false)).all (okRun [])

theorem alt_t {p q : Pg} (hp : p.size ≤ 20000) {ops : Array Oper} {φ : Fr} {H : Heap} {Q : Fr → Heap → Prop} (h : Ivs p q [] φ H) (hops : regB ops = true) (hQ : ∀ φ' H', (∃ K, M (eval tbl noExt) [.code p3_flotsamlaw16_TreeSames, .wfn [.t 4]] φ' H' = some (.bool true, K)) → Q φ' H') :
    AltOK (eval tbl noExt) ops o_flotsamlaw16_TreeSames Q ops.size (Array.replicate ops.size false) φ H := by
  simp only [regB, Bool.and_eq_true, List.all_eq_true] at hops
  refine AltOK.of hops.1 fun o ho => ?_
  obtain ⟨r, hr, d, hd, hI⟩ := run_t hp o [] _ _ (hops.2 o ho) h
  exact ⟨r, hr, hQ _ _ (fin_t hp hd hI)⟩

theorem TreeSames_out {P : Program} {c : Code} (hc : altB regB c k_flotsamlaw16_TreeSames = true) (p q : Pg) :
    OutK P (eval tbl noExt) c k_flotsamlaw16_TreeSames (params 0 [.agg p.cells, .agg q.cells]) [] fun e φ' H' => ∃ H'', wideEnd [.t 4] (e, φ', H') = some (.bool true, H'') := by
  obtain ⟨b1, e1, s1⟩ := Small_eq p
  obtain ⟨b2, e2, s2⟩ := Small_eq q
  have hk := knows16'
  have lp : p.cells.length = 4 := rfl
  have tp : p.cells.take 4 = p.cells := rfl
  have sp : p.cells.map V.strip = p.cells := rfl
  have up : V.underAll 0 p.cells = true := rfl
  have lq : q.cells.length = 4 := rfl
  have tq : q.cells.take 4 = q.cells := rfl
  have sq : q.cells.map V.strip = q.cells := rfl
  have uq : V.underAll 0 q.cells = true := rfl
  refine outK_seq hc fun x y hx hy => outK_code ?_
  generalize hr : exec (eval tbl noExt) p0_flotsamlaw16_TreeSames (params 0 [.agg p.cells, .agg q.cells]) [] = r
  simp [p0_flotsamlaw16_TreeSames, exec_reg, runOps, params, sp, sq] at hr
  subst hr
  refine ⟨_, _, _, rfl, fun _ => ?_, fun h => absurd rfl h⟩
  refine outK_seq hy fun x1 y1 hx1 hy1 => outK_code ?_
  cases b1 with
  | false =>
    generalize hr : exec (eval tbl noExt) p1_flotsamlaw16_TreeSames _ _ = r
    simp [p1_flotsamlaw16_TreeSames, exec_seq, exec_cond, exec_reg, runOps, lp, tp, sp, up, e1, hk] at hr
    subst hr
    exact ⟨_, _, _, rfl, ⟨fun h => (by cases h), fun _ => (by simp [wideEnd])⟩⟩
  | true =>
    cases b2 with
    | false =>
      generalize hr : exec (eval tbl noExt) p1_flotsamlaw16_TreeSames _ _ = r
      simp [p1_flotsamlaw16_TreeSames, exec_seq, exec_cond, exec_reg, runOps, lp, tp, sp, up, lq, tq, sq, uq, e1, e2, hk] at hr
      subst hr
      exact ⟨_, _, _, rfl, ⟨fun h => (by cases h), fun _ => (by simp [wideEnd])⟩⟩
    | true =>
      obtain ⟨hp, _⟩ := s1 rfl
      generalize hr : exec (eval tbl noExt) p1_flotsamlaw16_TreeSames _ _ = r
      simp [p1_flotsamlaw16_TreeSames, exec_seq, exec_cond, exec_reg, runOps, lp, tp, sp, up, lq, tq, sq, uq, e1, e2, hk] at hr
      subst hr
      refine ⟨_, _, _, rfl, fun _ => ?_, fun h => absurd rfl h⟩
      refine outK_seq hy1 fun x2 y2 hx2 hy2 => outK_alt hx2 fun ops hops => ?_
      refine alt_t (p := p) (q := q) (by omega) ?_ hops fun φ' H' hK => ⟨fun _ => ?_, fun h => absurd rfl h⟩
      · refine ⟨0, 0, [], [], ?_⟩
        constructor
        all_goals simp
      · obtain ⟨K, hK⟩ := hK
        exact outK_M hK

theorem lab_TreeSames : LabK tbl k_flotsamlaw16_TreeSames := by
  simp [LabK, LabC, k_flotsamlaw16_TreeSames, p0_flotsamlaw16_TreeSames, p1_flotsamlaw16_TreeSames, p3_flotsamlaw16_TreeSames, l_flotsamlaw16_TreeSames_w_0, b_flotsamlaw16_TreeSames_w_0, l_flotsamlaw16_TreeSames_w_1, b_flotsamlaw16_TreeSames_w_1, r_flotsamlaw16_TreeSames_w_0, r_flotsamlaw16_TreeSames_w_1]

end Go.AM.Spec
