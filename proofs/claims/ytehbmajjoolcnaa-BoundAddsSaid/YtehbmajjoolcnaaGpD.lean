/-
  The parts of this proof that speak of the functions one by one.
-/
import Derived.Test.YtehbmajjoolcnaaGpC
import Derived.Test.YtehbmajjoolcnaaGpB
namespace Go.AM.Spec
set_option linter.unusedVariables false
set_option linter.unusedSimpArgs false
set_option maxHeartbeats 4000000
set_option maxRecDepth 10000
end Go.AM.Spec
namespace Go.AM.Spec
set_option linter.unusedVariables false
set_option linter.unusedSimpArgs false
set_option maxHeartbeats 4000000
set_option maxRecDepth 10000
def NZ (R : Mp) : Prop := ∀ x ∈ R, x.2 ≠ 0
end Go.AM.Spec
namespace Go.AM.Spec
set_option linter.unusedVariables false
set_option linter.unusedSimpArgs false
set_option maxHeartbeats 4000000
set_option maxRecDepth 10000
end Go.AM.Spec
namespace Go.AM.Spec
set_option linter.unusedVariables false
set_option linter.unusedSimpArgs false
set_option maxHeartbeats 4000000
set_option maxRecDepth 10000
theorem NZ.nil : NZ [] := fun x h => by simp at h
end Go.AM.Spec
namespace Go.AM.Spec
set_option linter.unusedVariables false
set_option linter.unusedSimpArgs false
set_option maxHeartbeats 4000000
set_option maxRecDepth 10000
theorem Pg.chk_typed (p : Pg) : p.chk = p.typed := by
  unfold Pg.chk Pg.typed
  cases h : p.ok with
  | false => rfl
  | true => simp only [if_true]; exact Pg.chk_rk h
end Go.AM.Spec
namespace Go.AM.Spec
set_option linter.unusedVariables false
set_option linter.unusedSimpArgs false
set_option maxHeartbeats 1000000
set_option maxRecDepth 10000
mutual
def stepsB (k : Env) : List Sm → Int → Int
  | [], n => n
  | x :: l, n => stepsB k l (min (n + 1 + x.extB k) 65537)
def Sm.extB (k : Env) : Sm → Int
  | .mk op s n _ b c _ => if op = 14 then n * stepsB k b 0 else if op = 13 then max (stepsB k b 0) (stepsB k c 0) else if op = 16 then b.length else if op = 15 then k s else 0
end
def sumB (k : Env) : List Sm → Int
  | [] => 0
  | x :: l => 1 + x.extB k + sumB k l
def EnvB (k : Env) : Prop := ∀ s, 0 ≤ k s ∧ k s ≤ 65537
mutual
def Sm.low : Sm → Bool
  | .mk _ _ n _ b c _ => decide (0 ≤ n ∧ n ≤ 16) && decide (b.length ≤ 20000) && (Sm.lows b && Sm.lows c)
def Sm.lows : List Sm → Bool
  | [] => true
  | x :: l => x.low && Sm.lows l
end
mutual
theorem Sm.ext_low (k : Env) (hk : EnvB k) : ∀ x : Sm, x.low = true → 0 ≤ x.extB k ∧ x.extB k ≤ 1048592
  | .mk op s n e b c g, h => by
    simp only [Sm.low, Bool.and_eq_true, decide_eq_true_eq] at h
    obtain ⟨⟨⟨hn0, hn1⟩, hbl⟩, hb, hc⟩ := h
    have h1 := stepsB_low k hk b hb 0 (by omega) (by omega)
    have h2 := stepsB_low k hk c hc 0 (by omega) (by omega)
    have h3 := hk s
    simp only [Sm.extB]
    split
    · constructor
      · exact Int.mul_nonneg hn0 h1.1
      · have : n * stepsB k b 0 ≤ 16 * 65537 := Int.mul_le_mul hn1 h1.2 h1.1 (by omega)
        omega
    split
    · omega
    split
    · omega
    split <;> omega
theorem stepsB_low (k : Env) (hk : EnvB k) : ∀ l : List Sm, Sm.lows l = true → ∀ n : Int, 0 ≤ n → n ≤ 65537 → 0 ≤ stepsB k l n ∧ stepsB k l n ≤ 65537
  | [], _, n, h0, h1 => ⟨h0, h1⟩
  | x :: l, h, n, h0, h1 => by
    simp only [Sm.lows, Bool.and_eq_true] at h
    have hx := Sm.ext_low k hk x h.1
    simp only [stepsB]
    exact stepsB_low k hk l h.2 _ (by omega) (by omega)
end
theorem sumB_low (k : Env) (hk : EnvB k) : ∀ l : List Sm, Sm.lows l = true → 0 ≤ sumB k l
  | [], _ => by simp [sumB]
  | x :: l, h => by
    simp only [Sm.lows, Bool.and_eq_true] at h
    have := Sm.ext_low k hk x h.1
    have := sumB_low k hk l h.2
    simp only [sumB]; omega
theorem stepsB_sum (k : Env) (hk : EnvB k) : ∀ l : List Sm, Sm.lows l = true → ∀ n : Int, n ≤ 65537 → stepsB k l n = min (n + sumB k l) 65537
  | [], _, n, h1 => by simp only [stepsB, sumB]; omega
  | x :: l, h, n, h1 => by
    simp only [Sm.lows, Bool.and_eq_true] at h
    have h2 := Sm.ext_low k hk x h.1
    have h3 := sumB_low k hk l h.2
    simp only [stepsB, sumB]
    rw [stepsB_sum k hk l h.2 _ (by omega)]
    omega
theorem sumB_app (k : Env) : ∀ a b : List Sm, sumB k (a ++ b) = sumB k a + sumB k b
  | [], b => by simp [sumB]
  | x :: a, b => by simp only [List.cons_append, sumB, sumB_app k a b]; omega
theorem lows_app : ∀ a b : List Sm, Sm.lows (a ++ b) = (Sm.lows a && Sm.lows b)
  | [], b => by simp [Sm.lows]
  | x :: a, b => by simp only [List.cons_append, Sm.lows, lows_app a b, Bool.and_assoc]
theorem steps_twice (k : Env) (hk : EnvB k) (l : List Sm) (h : Sm.lows l = true) : stepsB k (l ++ l) 0 = min (2 * stepsB k l 0) 65537 := by
  have h0 := sumB_low k hk l h
  rw [stepsB_sum k hk _ (by rw [lows_app, h]; rfl) 0 (by omega), stepsB_sum k hk l h 0 (by omega), sumB_app]
  omega
def knownB : List (Nm × List Sm) → Mp → Mp
  | [], m => m
  | x :: l, m => knownB l (m.put x.1 (stepsB m.get x.2 0))
theorem Mp.put_low {m : Mp} (h : EnvB m.get) (s : Nm) {v : Int} (h0 : 0 ≤ v) (h1 : v ≤ 65537) : EnvB (m.put s v).get := fun t => by
  rw [Mp.get_put]
  split
  · exact ⟨h0, h1⟩
  · exact h t
theorem knownB_low : ∀ (l : List (Nm × List Sm)) (m : Mp), (∀ x ∈ l, Sm.lows x.2 = true) → EnvB m.get → EnvB (knownB l m).get
  | [], _, _, h => h
  | x :: l, m, hl, h => by
    have hx := stepsB_low m.get h x.2 (hl x (by simp)) 0 (by omega) (by omega)
    exact knownB_low l _ (fun y hy => hl y (by simp [hy])) (Mp.put_low h x.1 hx.1 hx.2)
def Pg.stepsB (p : Pg) : Int × Int × Bool :=
  if p.typed = (0, 0) then (Spec.stepsB (knownB p.procs []).get p.main 0, Spec.stepsB (knownB p.procs []).get p.recover 0, true) else (0, 0, false)
theorem Sm.ok_low : ∀ (n : Nat) (x : Sm) (d : Nat), x.size ≤ n → n ≤ 20000 → x.ok d = true → x.low = true := by
  intro n
  induction n with
  | zero => intro x d h; cases x; simp only [Sm.size] at h; omega
  | succ n ih =>
    intro x d h hn hok
    obtain ⟨op, s, m, e, b, c, g⟩ := x
    have hin := Sm.ok_in hok
    simp only [Sm.size] at h
    have hs := hok
    simp only [Sm.ok, Bool.and_eq_true] at hs
    have hs := hs.2.1
    have go : ∀ l : List Sm, Sm.sizes l ≤ n → Sm.oks l (d + 1) = true → Sm.lows l = true := by
      intro l
      induction l with
      | nil => intros; rfl
      | cons y l ihl =>
        intro h1 h2
        simp only [Sm.sizes] at h1
        simp only [Sm.oks, Bool.and_eq_true] at h2
        simp only [Sm.lows, Bool.and_eq_true]
        exact ⟨ih y (d + 1) (by omega) (by omega) h2.1, ihl (by omega) h2.2⟩
    have hbl := Sm.sizes_ge b
    simp only [Sm.low, Bool.and_eq_true, decide_eq_true_eq]
    refine ⟨⟨?_, by omega⟩, go b (by omega) hin.1, go c (by omega) hin.2⟩
    unfold shapeOk at hs
    split at hs
    · cases hs
    · simp only [Bool.and_eq_true, Bool.or_eq_true, decide_eq_true_eq] at hs
      omega
theorem oks_lows {l : List Sm} {d : Nat} (h : Sm.oks l d = true) (hl : Sm.sizes l ≤ 20000) : Sm.lows l = true := by
  induction l with
  | nil => rfl
  | cons y l ih =>
    simp only [Sm.sizes] at hl
    simp only [Sm.oks, Bool.and_eq_true] at h
    simp only [Sm.lows, Bool.and_eq_true]
    exact ⟨Sm.ok_low 20000 y d (by omega) (by omega) h.1, ih h.2 (by omega)⟩
end Go.AM.Spec
namespace Go.AM.Spec
set_option linter.unusedVariables false
set_option linter.unusedSimpArgs false
set_option maxHeartbeats 4000000
set_option maxRecDepth 10000
theorem bfine_eq (p : Pg) (h : p.Fine) : eval tbl noExt n_bound_fine [.agg p.cells] [] = some (.bool (decide (p.typed = (0, 0))), []) := by
  obtain ⟨H', hC⟩ := Check_eq p h
  rw [Pg.chk_typed] at hC
  have hd : decide (p.typed = (0, 0)) = (decide (p.typed.1 = 0) && decide (p.typed.2 = 0)) := by
    generalize p.typed = f
    obtain ⟨a, b⟩ := f
    by_cases h1 : a = 0 <;> by_cases h2 : b = 0 <;> simp [h1, h2]
  rw [hd]
  generalize p.typed = f at hC ⊢
  rw [eval_M rfl rfl t_bound_fine rfl]
  simp only [Pg.cells] at hC ⊢
  simp [c_bound_fine, hC, eqCells]
def StpOK (H : Heap) (i : Nat) (k : Env) (l : List Sm) : Prop := ∀ T, eval tbl noExt n_bound_known_steps [.mptr i, .sl 7 (Sm.rows l)] (H ++ T) = some (.int .i64 (stepsB k l 0), H ++ T)
theorem steps_loop (H : Heap) (i : Nat) (m : Mp) (hm : H[i]? = some (some (mpc m))) (hE : EnvB m.get) (L : List Sm) (hL : Sm.lows L = true) (hl : L.length ≤ 20000) (hb : ∀ x ∈ L, ∀ b ∈ x.blocks, StpOK H i m.get b) (k : List Item) (X : Option (V × Heap))
    (hexit : ∀ φ' T, Fr.get φ' 5 = .int .i64 (stepsB m.get L 0) → M (eval tbl noExt) k φ' (H ++ T) = X) :
    ∀ (l : List Sm) (j : Nat) (n : Int) (φ : Fr) (T : Heap), L.drop j = l → stepsB m.get L 0 = stepsB m.get l n → Sm.lows l = true → 0 ≤ n → n ≤ 65537 → Fr.get φ 0 = .mptr i → Fr.get φ 5 = .int .i64 n →
      Fr.get φ 8 = .sl 7 (Sm.rows L) → Fr.get φ 9 = .int .i64 L.length → Fr.get φ 10 = .int .i64 j → M (eval tbl noExt) (.code l_bound_known_steps_0 :: .blk 0 :: k) φ (H ++ T) = X := by
  intro l
  induction l with
  | nil =>
    intro j n φ T hd e1 hlo hn0 hn1 h0 h5 h8 h9 h10
    have hj : L.length ≤ j := by rw [← Nat.sub_eq_zero_iff_le, ← List.length_drop, hd]; rfl
    have hlt : ¬ ((j : Int) < L.length) := by omega
    rw [l_bound_known_steps_0, M_loop, ← l_bound_known_steps_0]
    simp [b_bound_known_steps_0, h0, h5, h8, h9, h10, hlt]
    refine hexit _ _ ?_
    rw [e1]
    simp [h5, stepsB]
  | cons x l ih =>
    intro j n φ T hd e1 hlo hn0 hn1 h0 h5 h8 h9 h10
    have hj : j < L.length := by
      have : (L.drop j).length = l.length + 1 := by rw [hd]; rfl
      rw [List.length_drop] at this; omega
    have hlt : (j : Int) < L.length := by omega
    have hLx : L[j]? = some x := by rw [← List.head?_drop, hd]; rfl
    have hmem : x ∈ L := List.mem_of_getElem? hLx
    have hd1 : L.drop (j + 1) = l := by rw [← List.tail_drop, hd]; rfl
    have hw : IntKind.i64.wrap ((j : Int) + 1) = ((j + 1 : Nat) : Int) := by rw [w64 (by omega) (by omega)]; rfl
    have hrl : (Sm.rows L).length = L.length := by rw [Sm.rows_eq]; simp
    have hr : (Sm.rows L)[j]? = some x.cells := by rw [Sm.rows_eq, List.getElem?_map, hLx]; rfl
    have hr2 : ∀ h, (Sm.rows L)[j]'h = x.cells := fun h => by rw [List.getElem?_eq_getElem h] at hr; exact Option.some.inj hr
    simp only [Sm.lows, Bool.and_eq_true] at hlo
    have hxe := Sm.ext_low m.get hE x hlo.1
    have e2 : stepsB m.get L 0 = stepsB m.get l (min (n + 1 + x.extB m.get) 65537) := by rw [e1, stepsB]
    have hxb := hb x hmem
    have hx1 := hlo.1
    obtain ⟨G, hG⟩ : ∃ G, G = H ++ T := ⟨_, rfl⟩
    have eG : ∀ A : Heap, G ++ A = H ++ (T ++ A) := fun A => by rw [hG, List.append_assoc]
    have hmo : ∀ A : Heap, mapOf (G ++ A) false [.str] (.mptr i) = some (mks m, mvs m) := fun A => by
      rw [eG]; simp [mapOf, getE_app hm, mpc]
    have hgo : ∀ b ∈ x.blocks, ∀ A : Heap, eval tbl noExt n_bound_known_steps [.mptr i, .sl 7 (Sm.rows b)] (G ++ A) = some (.int .i64 (stepsB m.get b 0), G ++ A) := fun b hb' A => by
      rw [eG]; exact hxb b hb' _
    rw [← hG]
    clear hxb e1 hL hb
    obtain ⟨op, s, n', e, b, c, g⟩ := x
    have hg1 := hgo b (by simp [Sm.blocks])
    have hg2 := hgo c (by simp [Sm.blocks])
    have hlk := look_mp s m
    have hkw := keyWell_str s
    have hw1 : IntKind.i64.wrap (n + 1) = n + 1 := w64 (by omega) (by omega)
    have hw2 : IntKind.i64.wrap (n + 1 + Sm.extB m.get (.mk op s n' e b c g)) = n + 1 + Sm.extB m.get (.mk op s n' e b c g) := w64 (by omega) (by omega)
    simp only [Sm.low, Bool.and_eq_true, decide_eq_true_eq] at hx1
    obtain ⟨⟨⟨hn'0, hn'1⟩, hbl⟩, hxb, hxc⟩ := hx1
    have hsb := stepsB_low m.get hE b hxb 0 (by omega) (by omega)
    have hbl2 : (Sm.rows b).length = b.length := by rw [Sm.rows_eq]; simp
    have hw3 : IntKind.i64.wrap (n' * stepsB m.get b 0) = n' * stepsB m.get b 0 := by
      have h1 : n' * stepsB m.get b 0 ≤ 16 * 65537 := Int.mul_le_mul hn'1 hsb.2 hsb.1 (by omega)
      have h2 := Int.mul_nonneg hn'0 hsb.1
      exact w64 (by omega) (by omega)
    simp only [Sm.cells] at hr hr2
    have fin : ∀ (φ' : Fr) (A : Heap), Fr.get φ' 0 = .mptr i → Fr.get φ' 5 = .int .i64 (min (n + 1 + Sm.extB m.get (.mk op s n' e b c g)) 65537) → Fr.get φ' 8 = .sl 7 (Sm.rows L) → Fr.get φ' 9 = .int .i64 L.length → Fr.get φ' 10 = .int .i64 ((j + 1 : Nat) : Int) →
        M (eval tbl noExt) (.code l_bound_known_steps_0 :: .blk 0 :: k) φ' (G ++ A) = X := fun φ' A h0 h5 h8 h9 h10 => by
      rw [eG]
      exact ih (j + 1) _ φ' _ hd1 e2 hlo.2 (by omega) (by omega) h0 h5 h8 h9 h10
    rw [l_bound_known_steps_0, M_loop, ← l_bound_known_steps_0]
    by_cases h14 : op = 14
    · have he : Sm.extB m.get (.mk op s n' e b c g) = n' * stepsB m.get b 0 := by simp [Sm.extB, h14]
      rw [he] at hw2 fin
      simp [b_bound_known_steps_0, h0, h5, h8, h9, h10, hlt, hj, hrl, hr, hr2, hw, hw1, hw2, hw3, h14, hg1]
      refine fin _ _ ?_ ?_ ?_ ?_ ?_
      all_goals simp [h0, h8, h9]
    by_cases h13 : op = 13
    · have he : Sm.extB m.get (.mk op s n' e b c g) = max (stepsB m.get b 0) (stepsB m.get c 0) := by simp [Sm.extB, h13]
      rw [he] at hw2 fin
      simp [b_bound_known_steps_0, h0, h5, h8, h9, h10, hlt, hj, hrl, hr, hr2, hw, hw1, hw2, hw3, h14, h13, hg1, hg2]
      refine fin _ _ ?_ ?_ ?_ ?_ ?_
      all_goals simp [h0, h8, h9]
    by_cases h16 : op = 16
    · have he : Sm.extB m.get (.mk op s n' e b c g) = b.length := by simp [Sm.extB, h16]
      rw [he] at hw2 fin
      simp [b_bound_known_steps_0, h0, h5, h8, h9, h10, hlt, hj, hrl, hr, hr2, hw, hw1, hw2, hw3, h14, h13, h16, hbl2]
      refine fin _ _ ?_ ?_ ?_ ?_ ?_
      all_goals simp [h0, h8, h9]
    by_cases h15 : op = 15
    · have he : Sm.extB m.get (.mk op s n' e b c g) = m.get s := by simp [Sm.extB, h15]
      rw [he] at hw2 fin
      simp [b_bound_known_steps_0, h0, h5, h8, h9, h10, hlt, hj, hrl, hr, hr2, hw, hw1, hw2, hw3, h14, h13, h16, h15, hmo, hlk, hkw, keyOf]
      refine fin _ _ ?_ ?_ ?_ ?_ ?_
      all_goals simp [h0, h8, h9]
    have he : Sm.extB m.get (.mk op s n' e b c g) = 0 := by simp [Sm.extB, h14, h13, h16, h15]
    rw [he] at hw2 fin
    simp only [Int.add_zero] at hw2 fin
    simp [b_bound_known_steps_0, h0, h5, h8, h9, h10, hlt, hj, hrl, hr, hr2, hw, hw1, hw2, hw3, h14, h13, h16, h15]
    refine fin _ _ ?_ ?_ ?_ ?_ ?_
    all_goals simp [h0, h8, h9]
theorem steps_step (i : Nat) (m : Mp) (hE : EnvB m.get) (G : Heap) (hm : G[i]? = some (some (mpc m))) (l : List Sm) (hlo : Sm.lows l = true) (hll : l.length ≤ 20000) (hbs : ∀ x ∈ l, ∀ b ∈ x.blocks, StpOK G i m.get b) :
    eval tbl noExt n_bound_known_steps [.mptr i, .sl 7 (Sm.rows l)] G = some (.int .i64 (stepsB m.get l 0), G) := by
  have hrl : (Sm.rows l).length = l.length := by rw [Sm.rows_eq]; simp
  have hloop := fun k X hexit φ T h0 h5 h8 h9 h10 => steps_loop G i m hm hE l hlo hll hbs k X hexit l 0 0 φ T rfl rfl hlo (by omega) (by omega) h0 h5 h8 h9 h10
  have hloop0 := fun k X hexit φ h0 h5 h8 h9 h10 => hloop k X hexit φ [] h0 h5 h8 h9 h10
  simp only [List.append_nil] at hloop0
  rw [eval_M rfl rfl t_bound_known_steps rfl]
  simp [c_bound_known_steps, hrl]
  refine hloop0 _ _ ?_ _ ?_ ?_ ?_ ?_ ?_
  · intro φ' T' h5
    simp [r_bound_known_steps_0, h5]
  all_goals simp
theorem low_mem {l : List Sm} (h : Sm.lows l = true) {x : Sm} (hx : x ∈ l) : x.low = true := by
  induction l with
  | nil => simp at hx
  | cons y l ih =>
    simp only [Sm.lows, Bool.and_eq_true] at h
    rcases List.mem_cons.1 hx with rfl | hx
    · exact h.1
    · exact ih h.2 hx
theorem steps_ok (i : Nat) (m : Mp) (hE : EnvB m.get) : ∀ (n : Nat) (l : List Sm) (H : Heap), Sm.sizes l ≤ n → n ≤ 20000 → Sm.lows l = true → H[i]? = some (some (mpc m)) → StpOK H i m.get l := by
  intro n
  induction n with
  | zero =>
    intro l H h _ hlo hm T
    have hl : l = [] := by
      have := Sm.sizes_ge l
      exact List.eq_nil_of_length_eq_zero (by omega)
    subst hl
    exact steps_step i m hE _ (getE_app hm T) [] hlo (by simp) (fun x hx => by simp at hx)
  | succ n ih =>
    intro l H h hn hlo hm T
    have hll := Sm.sizes_ge l
    refine steps_step i m hE _ (getE_app hm T) l hlo (by omega) fun x hx b hb => ?_
    have hsz := Sm.sizes_mem hx
    have hlx := low_mem hlo hx
    obtain ⟨op, s, n', e, b1, b2, g⟩ := x
    simp only [Sm.size] at hsz
    simp only [Sm.low, Bool.and_eq_true] at hlx
    simp only [Sm.blocks, List.mem_cons, List.not_mem_nil, or_false] at hb
    rcases hb with rfl | rfl
    · exact ih _ _ (by omega) (by omega) hlx.2.1 (getE_app hm T)
    · exact ih _ _ (by omega) (by omega) hlx.2.2 (getE_app hm T)
theorem map_put2 (a : Option (List V)) (m : Mp) (s : Nm) (v : Int) (A : Heap) : mapPut (a :: some (mpc m) :: A) false [.str] (.mptr 1) [.str s] (.int .i64 v) = some (a :: some (mpc (m.put s v)) :: A) := by
  have h := put_mp s v m
  have hm : mapOf (a :: some (mpc m) :: A) false [.str] (.mptr 1) = some (mks m, mvs m) := by simp [mapOf, mpc]
  simp [mapPut, hm, h, keyWell_str]
  rfl
theorem Steps_loop (p : Pg) (P : List (Nm × List Sm)) (hP : ∀ x ∈ P, Sm.lows x.2 = true ∧ Sm.sizes x.2 ≤ 20000) (hPl : P.length ≤ 20000) (k : List Item) (X : Option (V × Heap))
    (hexit : ∀ φ' T, Fr.get φ' 1 = .ptr 0 0 → Fr.get φ' 5 = .mptr 1 → M (eval tbl noExt) k φ' (some p.cells :: some (mpc (knownB P [])) :: T) = X) :
    ∀ (l : List (Nm × List Sm)) (j : Nat) (m : Mp) (φ : Fr) (T : Heap), P.drop j = l → knownB P [] = knownB l m → EnvB m.get → Fr.get φ 1 = .ptr 0 0 → Fr.get φ 5 = .mptr 1 →
      Fr.get φ 13 = .sl 2 (P.map fun x => [.str x.1, .sl 7 (Sm.rows x.2)]) → Fr.get φ 14 = .int .i64 P.length → Fr.get φ 15 = .int .i64 j → M (eval tbl noExt) (.code l_bound_Steps_0 :: .blk 0 :: k) φ (some p.cells :: some (mpc m) :: T) = X := by
  intro l
  induction l with
  | nil =>
    intro j m φ T hd e1 hE h1 h5 h13 h14 h15
    have hj : P.length ≤ j := by rw [← Nat.sub_eq_zero_iff_le, ← List.length_drop, hd]; rfl
    have hlt : ¬ ((j : Int) < P.length) := by omega
    rw [l_bound_Steps_0, M_loop, ← l_bound_Steps_0]
    simp [b_bound_Steps_0, h1, h5, h13, h14, h15, hlt]
    rw [show m = knownB P [] by rw [e1]; rfl]
    refine hexit _ _ ?_ ?_
    · simp [h1]
    · simp [h5]
  | cons x l ih =>
    intro j m φ T hd e1 hE h1 h5 h13 h14 h15
    have hj : j < P.length := by
      have : (P.drop j).length = l.length + 1 := by rw [hd]; rfl
      rw [List.length_drop] at this; omega
    have hlt : (j : Int) < P.length := by omega
    have hLx : P[j]? = some x := by rw [← List.head?_drop, hd]; rfl
    have hmem : x ∈ P := List.mem_of_getElem? hLx
    have hd1 : P.drop (j + 1) = l := by rw [← List.tail_drop, hd]; rfl
    have hw : IntKind.i64.wrap ((j : Int) + 1) = ((j + 1 : Nat) : Int) := by rw [w64 (by omega) (by omega)]; rfl
    obtain ⟨hlo, hsz⟩ := hP x hmem
    obtain ⟨nm, body⟩ := x
    simp only at hlo hsz
    have hr : (P.map fun x => [V.str x.1, .sl 7 (Sm.rows x.2)])[j]? = some [.str nm, .sl 7 (Sm.rows body)] := by rw [List.getElem?_map, hLx]; rfl
    have hr2 : ∀ h, P[j]'h = (nm, body) := fun h => by rw [List.getElem?_eq_getElem h] at hLx; exact Option.some.inj hLx
    have hst := fun A => steps_ok 1 m hE 20000 body [some p.cells, some (mpc m)] hsz (Nat.le_refl _) hlo rfl A
    simp only [List.cons_append, List.nil_append] at hst
    have hmp := fun v A => map_put2 (some p.cells) m nm v A
    have hsb := stepsB_low m.get hE body hlo 0 (by omega) (by omega)
    rw [l_bound_Steps_0, M_loop, ← l_bound_Steps_0]
    simp [b_bound_Steps_0, h1, h5, h13, h14, h15, hlt, hj, hr, hr2, hw, hst, hmp, keyOf]
    refine ih (j + 1) _ _ _ hd1 e1 (Mp.put_low hE nm hsb.1 hsb.2) ?_ ?_ ?_ ?_ ?_
    · simp [h1]
    · simp [h5]
    · simp [h13]
    · simp [h14]
    · simp
theorem typed_ok {p : Pg} (h : p.typed = (0, 0)) : p.ok = true := by
  unfold Pg.typed at h
  cases hb : p.ok with
  | true => rfl
  | false => rw [hb] at h; simp at h
theorem Pg.ok_lows {p : Pg} (hok : p.ok = true) (h : p.size ≤ 19000) : (∀ x ∈ p.procs, Sm.lows x.2 = true ∧ Sm.sizes x.2 ≤ 20000) ∧ Sm.lows p.main = true ∧ Sm.lows p.recover = true := by
  obtain ⟨h1, h2, h3, h4⟩ := p.ok_parts hok
  have hsz : p.size = p.psize + Sm.sizes p.main + Sm.sizes p.recover + p.osize := rfl
  have hp : ∀ x ∈ p.procs, Sm.sizes x.2 ≤ p.psize := by
    intro x hx
    have : ∀ l : List (Nm × List Sm), x ∈ l → Sm.sizes x.2 ≤ psz l := by
      intro l
      induction l with
      | nil => intro h; simp at h
      | cons y l ih =>
        intro h
        simp only [psz, List.map_cons, List.sum_cons] at ih ⊢
        rcases List.mem_cons.1 h with rfl | h
        · omega
        · have := ih h; omega
    exact this _ hx
  exact ⟨fun x hx => ⟨oks_lows (h1 x hx) (by have := hp x hx; omega), by have := hp x hx; omega⟩, oks_lows h3 (by omega), oks_lows h4 (by omega)⟩
theorem Steps_eq (p : Pg) (h : p.Fine) : eval tbl noExt n_bound_Steps [.agg p.cells] [] = some (.tup [.int .i64 p.stepsB.1, .int .i64 p.stepsB.2.1, .bool p.stepsB.2.2], []) := by
  have hf := bfine_eq p h
  have hsz := h.size
  have hpl := p.lens h.size
  have hszm : p.size = p.psize + Sm.sizes p.main + Sm.sizes p.recover + p.osize := rfl
  rw [eval_M rfl rfl t_bound_Steps rfl]
  unfold Pg.stepsB
  by_cases c : p.typed = (0, 0)
  · rw [decide_eq_true c] at hf
    rw [if_pos c]
    obtain ⟨hl1, hl2, hl3⟩ := Pg.ok_lows (typed_ok c) h.size
    have hE := knownB_low p.procs [] (fun x hx => (hl1 x hx).1) (fun s => by simp [Mp.get])
    have hloop := fun k X hexit φ T h1 h5 h13 h14 h15 => Steps_loop p p.procs hl1 (by omega) k X hexit p.procs 0 [] φ T rfl rfl (fun s => by simp [Mp.get]) h1 h5 h13 h14 h15
    have hs1 := fun A => steps_ok 1 _ hE 20000 p.main [some p.cells, some (mpc (knownB p.procs []))] (by omega) (Nat.le_refl _) hl2 rfl A
    have hs2 := fun A => steps_ok 1 _ hE 20000 p.recover [some p.cells, some (mpc (knownB p.procs []))] (by omega) (Nat.le_refl _) hl3 rfl A
    simp only [List.cons_append, List.nil_append] at hs1 hs2
    have hpc : p.pcells = p.procs.map fun x => [V.str x.1, .sl 7 (Sm.rows x.2)] := rfl
    have hpcl := p.pcells_len
    rw [show p.procs.map (fun x => [V.str x.1, .sl 7 (Sm.rows x.2)]) = p.pcells from rfl] at hloop
    simp only [Pg.cells] at hf hloop hs1 hs2 ⊢
    simp [c_bound_Steps, hf, hpcl]
    refine hloop _ _ ?_ _ [] ?_ ?_ ?_ ?_ ?_
    · intro φ' T h1 h5
      simp [r_bound_Steps_0, h1, h5, hs1, hs2]
    all_goals simp
  · rw [decide_eq_false c] at hf
    rw [if_neg c]
    simp only [Pg.cells] at hf ⊢
    simp [c_bound_Steps, hf]
end Go.AM.Spec
namespace Go.AM.Spec
set_option linter.unusedVariables false
set_option linter.unusedSimpArgs false
set_option maxHeartbeats 4000000
set_option maxRecDepth 10000
theorem bd_plain (l : List Sm) : ((Sm.rows l).all fun r => r.all V.plain) = true := by
  rw [Sm.rows_eq, List.all_map, List.all_eq_true]
  intro x _
  cases x; simp [Sm.cells]
theorem knows20 : eval tbl noExt n_flotsamlaw20_knows [] [] = some (.bool true, []) := (eval_iff _ _ _ _ _ _).2 ⟨400, by kernel_rfl⟩
theorem Pg.steps_low {p : Pg} (h : p.size ≤ 19000) : 0 ≤ p.stepsB.1 ∧ p.stepsB.1 ≤ 65537 ∧ 0 ≤ p.stepsB.2.1 ∧ p.stepsB.2.1 ≤ 65537 := by
  unfold Pg.stepsB
  split
  · rename_i c
    obtain ⟨hl1, hl2, hl3⟩ := Pg.ok_lows (typed_ok c) h
    have hE := knownB_low p.procs [] (fun x hx => (hl1 x hx).1) (fun s => by simp [Mp.get])
    have h1 := stepsB_low _ hE p.main hl2 0 (by omega) (by omega)
    have h2 := stepsB_low _ hE p.recover hl3 0 (by omega) (by omega)
    exact ⟨h1.1, h1.2, h2.1, h2.2⟩
  · simp
theorem steps_with {p : Pg} (c : p.typed = (0, 0)) (M : List Sm) : Pg.stepsB { p with main := M, recover := [] } = (Spec.stepsB (knownB p.procs []).get M 0, 0, true) ∨ Pg.stepsB { p with main := M, recover := [] } = (0, 0, false) := by
  by_cases h : Pg.typed { p with main := M, recover := [] } = (0, 0)
  · left
    unfold Pg.stepsB
    rw [if_pos h]
    simp [Spec.stepsB]
  · right
    unfold Pg.stepsB
    rw [if_neg h]
theorem fine_with {p : Pg} (h : p.Fine) {M : List Sm} (h1 : Sm.sizes M ≤ 5000) (h2 : Sm.txts M) (h3 : p.size ≤ 600) : Pg.Fine { p with main := M, recover := [] } := by
  refine ⟨?_, h.txt.1, h2, by simp [Sm.txts], h.txt.2.2.2⟩
  have e : Pg.size { p with main := M, recover := [] } = p.psize + Sm.sizes M + Sm.sizes [] + p.osize := rfl
  rw [e]
  simp only [Pg.size] at h3
  simp only [Sm.sizes]
  omega
theorem BoundAdds_eq (p : Pg) (hfit : p.fit) (n : Int) (hn : (Lit.int .i64 n).wf = true) : eval tbl noExt n_flotsamlaw20_BoundAdds [.agg p.cells, .int .i64 n] [] = some (.bool true, []) := by
  obtain ⟨b, hb, hs⟩ := Small_eq p
  rw [eval_M rfl rfl t_flotsamlaw20_BoundAdds rfl]
  cases b with
  | false =>
    simp only [Pg.cells] at hb ⊢
    simp [c_flotsamlaw20_BoundAdds, hb, knows20]
  | true =>
    by_cases c1 : n < 0
    · simp only [Pg.cells] at hb ⊢
      simp [c_flotsamlaw20_BoundAdds, hb, knows20, c1]
    by_cases c2 : 16 < n
    · simp only [Pg.cells] at hb ⊢
      simp [c_flotsamlaw20_BoundAdds, hb, knows20, c1, c2]
    obtain ⟨hsz, htx⟩ := hs rfl
    have hF : p.Fine := ⟨by omega, htx⟩
    have hS := Steps_eq p hF
    have hlow := Pg.steps_low hF.size
    by_cases c0 : p.typed = (0, 0)
    case neg =>
      have e : p.stepsB = (0, 0, false) := by unfold Pg.stepsB; rw [if_neg c0]
      rw [e] at hS
      simp only [Pg.cells] at hb hS ⊢
      simp [c_flotsamlaw20_BoundAdds, hb, knows20, c1, c2, hS]
    obtain ⟨hl1, hl2, hl3⟩ := Pg.ok_lows (typed_ok c0) hF.size
    have hE := knownB_low p.procs [] (fun x hx => (hl1 x hx).1) (fun s => by simp [Mp.get])
    have e : p.stepsB = (Spec.stepsB (knownB p.procs []).get p.main 0, Spec.stepsB (knownB p.procs []).get p.recover 0, true) := by unfold Pg.stepsB; rw [if_pos c0]
    have hszm : p.size = p.psize + Sm.sizes p.main + Sm.sizes p.recover + p.osize := rfl
    have htw := steps_twice _ hE p.main hl2
    have hF1 := fine_with hF (M := p.main ++ p.main) (by rw [sizes_append]; omega) (Sm.txts_append.2 ⟨htx.2.1, htx.2.1⟩) hsz
    have hF2 := fine_with hF (M := [.mk 14 [] n [] p.main [] false]) (by simp only [Sm.sizes, Sm.size, Ex.sizes]; omega) (by simp [Sm.txts, Sm.txt, Ex.txts, htx.2.1]) hsz
    have hF3 := fine_with hF (M := [.mk 13 [] 0 [.mk 3 0 [] []] p.main p.recover false]) (by simp only [Sm.sizes, Sm.size, Ex.sizes, Ex.size]; omega) (by simp [Sm.txts, Sm.txt, Ex.txts, Ex.txt, htx.2.1, htx.2.2.1]) hsz
    have hS1 := Steps_eq _ hF1
    have hS2 := Steps_eq _ hF2
    have hS3 := Steps_eq _ hF3
    have q1 := steps_with c0 (p.main ++ p.main)
    have q2 := steps_with c0 [.mk 14 [] n [] p.main [] false]
    have q3 := steps_with c0 [.mk 13 [] 0 [.mk 3 0 [] []] p.main p.recover false]
    rw [e] at hS hlow
    rw [htw] at q1
    simp only [Spec.stepsB, Sm.extB] at q2 q3
    have hml := Sm.sizes_ge p.main
    have hra : Sm.rows (p.main ++ p.main) = Sm.rows p.main ++ Sm.rows p.main := Sm.rows_append _ _
    have ep : ∀ M, Pg.pcells { p with main := M, recover := [] } = p.pcells := fun _ => rfl
    have eo : ∀ M, Pg.ocells { p with main := M, recover := [] } = p.ocells := fun _ => rfl
    simp only [Pg.cells, hra, ep, eo] at hS1
    simp only [Pg.cells, ep, eo] at hS2 hS3
    clear hE hl1 hl2 hl3 htw e
    generalize Pg.stepsB { p with main := p.main ++ p.main, recover := [] } = r1 at hS1 q1
    generalize Pg.stepsB { p with main := [.mk 14 [] n [] p.main [] false], recover := [] } = r2 at hS2 q2
    generalize Pg.stepsB { p with main := [.mk 13 [] 0 [.mk 3 0 [] []] p.main p.recover false], recover := [] } = r3 at hS3 q3
    generalize Spec.stepsB (knownB p.procs []).get p.main 0 = a at *
    generalize Spec.stepsB (knownB p.procs []).get p.recover 0 = b at *
    simp only at hlow
    obtain ⟨ha0, ha1, hb0, hb1⟩ := hlow
    have hw1 : IntKind.i64.wrap (2 * a) = 2 * a := w64 (by omega) (by omega)
    have hna : 0 ≤ n * a ∧ n * a ≤ 16 * 65537 := ⟨Int.mul_nonneg (by omega) ha0, Int.mul_le_mul (by omega) ha1 ha0 (by omega)⟩
    have hw2 : IntKind.i64.wrap (n * a) = n * a := w64 (by omega) (by omega)
    have hw3 : IntKind.i64.wrap (1 + n * a) = 1 + n * a := w64 (by omega) (by omega)
    have hw4 : IntKind.i64.wrap (1 + max a b) = 1 + max a b := w64 (by omega) (by omega)
    have hrl : (Sm.rows p.main).length = p.main.length := by rw [Sm.rows_eq]; simp
    have hcap1 : 2 * p.main.length * 112 ≤ 281474976710656 := by omega
    have hcap2 : 2 * (p.main.length + p.main.length) * 112 ≤ 281474976710656 := by omega
    have hmp := bd_plain p.main
    have hc1 : Sm.rows [.mk 14 [] n [] p.main [] false] = [[.int .i64 14, .str [], .int .i64 n, .sl 4 [], .sl 7 (Sm.rows p.main), .sl 7 [], .bool false]] := by simp [Sm.rows, Sm.cells, Ex.rows]
    have hc2 : Sm.rows [.mk 13 [] 0 [.mk 3 0 [] []] p.main p.recover false] = [[.int .i64 13, .str [], .int .i64 0, .sl 4 [[.int .i64 3, .int .i64 0, .str [], .sl 4 []]], .sl 7 (Sm.rows p.main), .sl 7 (Sm.rows p.recover), .bool false]] := by simp [Sm.rows, Sm.cells, Ex.rows, Ex.cells]
    have hc0 : Sm.rows [] = [] := by simp [Sm.rows]
    rw [hc1, hc0] at hS2
    rw [hc2, hc0] at hS3
    rw [hc0] at hS1
    have hz : (0 : Int) + 1 = 1 := rfl
    simp only [if_true, hz] at q2 q3
    rw [if_neg (by decide : ¬ (13 : Int) = 14)] at q3
    clear hc0 hc1 hc2 hra hF hF1 hF2 hF3 hs hszm htx
    simp only [Pg.cells] at hb hS ⊢
    rcases q1 with rfl | rfl <;> rcases q2 with rfl | rfl <;> rcases q3 with rfl | rfl <;>
      simp only at hS1 hS2 hS3 <;>
      simp [c_flotsamlaw20_BoundAdds, hb, knows20, c1, c2, hS, hrl, hcap1, hcap2, hmp, hS1, hS2, hS3, hw1, hw2, hw3, hw4, -List.all_eq_true]
end Go.AM.Spec
