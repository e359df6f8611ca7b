/-
  Operands: what they read as; what taking one leaves. And what it is that one operation of the model runs.
-/
import Derived.Test.YtbgblfbbeamleaaGreatDoorChk
import Derived.WalkKit
import Derived.RangeFuncRecord
import Derived.LoopNIn
import Derived.TacticsIn
import Derived.OrdersIn
set_option linter.unusedVariables false
namespace Go.AM

theorem cVal1_ok {x : Value} {v : V} (h : cVal1 x v = true) (w : World) (F : Nat → Nat → Prop) (ι : Places) : RL w F ι v x none := by
  unfold cVal1 at h
  split at h
  · simp only [beq_iff_eq] at h; subst h; exact R.RL (.pr (.bool _))
  · simp only [Bool.and_eq_true, beq_iff_eq] at h; obtain ⟨rfl, rfl⟩ := h; exact R.RL (.pr (.int _ _))
  · rename_i s l
    simp only [beq_iff_eq] at h
    have : s = ⟨l.toArray⟩ := by cases s; simp at h; simp [← h]
    rw [this]; exact R.RL (.pr (.str _))
  · exact R.RL (.pr .nilp)
  · exact R.RL (.pr .nilf)
  · exact R.RL (.pr .nilm)
  · rename_i k
    refine ⟨.sl k [] none 0 0 0 (fun _ _ => default) (Nat.le_refl _) (fun _ => rfl) (by simp) (by simp) (by simp) (by simp), none, 0, rfl, rfl⟩
  · rename_i k
    exact R.RL (.pr (.sl k [] none 0 0 0 (fun _ _ => default) (Nat.le_refl _) (fun _ => rfl) (by simp) (by simp) (by simp) (by simp)))
  · exact R.RL (.pr (.nils _))
  · cases h

theorem cCells_ok : ∀ {xs : List Value} {vs : List V}, cCells xs vs = true → xs.length = vs.length ∧ ∀ (j : Nat) (v : V) (x : Value), vs[j]? = some v → xs[j]? = some x → cVal1 x v = true
  | [], [], _ => ⟨rfl, fun j v x h => by simp at h⟩
  | x :: xs, v :: vs, h => by
    simp only [cCells, Bool.and_eq_true] at h
    obtain ⟨h1, h2⟩ := cCells_ok h.2
    refine ⟨by simp [h1], fun j u y hu hy => ?_⟩
    cases j with
    | zero => simp at hu hy; subst hu; subst hy; exact h.1
    | succ j => simp at hu hy; exact h2 j u y hu hy
  | [], _ :: _, h => by simp [cCells] at h
  | _ :: _, [], h => by simp [cCells] at h

theorem noOwns_ok : ∀ {vs : List V}, noOwns vs = true → ∀ (j : Nat) (v : V), vs[j]? = some v → ∀ k r, v ≠ .own k r
  | [], _, j, v, h => by simp at h
  | u :: us, h, j, v, hj => by
    cases j with
    | zero =>
      simp at hj; subst hj
      intro k r he; subst he; simp [noOwns] at h
    | succ j =>
      simp at hj
      exact noOwns_ok (vs := us) (by cases u <;> simp_all [noOwns]) j v hj

theorem cVal_ok {x : Value} {v : V} (h : cVal x v = true) (w : World) (F : Nat → Nat → Prop) (ι : Places) : RL w F ι v x none := by
  unfold cVal at h
  split at h
  · rename_i xs cs
    simp only [Bool.and_eq_true] at h
    obtain ⟨h1, h2⟩ := cCells_ok h.1
    refine R.RL (.agg cs xs (by simpa using h1) fun j v x hv hx => ?_)
    exact ((RL_other (noOwns_ok h.2 j v hv)).1 (cVal1_ok (h2 j v x hv (by simpa using hx)) w F ι)).1
  · exact cVal1_ok h w F ι

section
variable {E : LblP} {nt : Cx} {φ : Fr} {H : Heap} {ρ : Own} {ι : Places} {a : Act} {w : World} {vs : List V} {xs : List Value}

theorem rd_ok (s : StA E nt φ H ρ ι a w vs xs) {X : Operand} {x : AX} (h : chkX X x = true) : R w (foot ρ) ι (rd φ x) (a.eval X) := by
  unfold chkX at h
  split at h
  · simp only [beq_iff_eq] at h; subst h; exact (s.sl _).R
  · exact (cVal_ok h _ _ _).R
  · simp only [beq_iff_eq] at h; subst h; exact .pr (.fn _)
  · cases h

theorem take_ok (s : StA E nt φ H ρ ι a w vs xs) {X : Operand} {x : AX} (h : chkX X x = true) :
    ∃ ρ', StA E nt (takeX φ x).2 H ρ' ι a w (vs ++ [(takeX φ x).1]) (xs ++ [a.eval X]) ∧ Goes ρ ι w ρ' ι w := by
  have hlen : ∀ (v : V) (y : Value) (j : Nat) (u : V) (z : Value), (vs ++ [v])[j]? = some u → (xs ++ [y])[j]? = some z → (j < vs.length ∧ vs[j]? = some u ∧ xs[j]? = some z) ∨ (j = vs.length ∧ u = v ∧ z = y) := by
    intro v y j u z hu hz
    rcases Nat.lt_trichotomy j vs.length with h1 | h1 | h1
    · exact .inl ⟨h1, by rwa [List.getElem?_append_left h1] at hu, by rwa [List.getElem?_append_left (by rw [← s.al]; exact h1)] at hz⟩
    · subst h1
      refine .inr ⟨rfl, ?_, ?_⟩
      · simpa using hu.symm
      · rw [s.al] at hz; simpa using hz.symm
    · rw [List.getElem?_eq_none (by simp; omega)] at hu; cases hu
  have key : ∀ (v : V) (y : Value), RL w (foot ρ) ι v y none → StA E nt φ H ρ ι a w (vs ++ [v]) (xs ++ [y]) := by
    intro v y hv
    refine ⟨s.sz, s.df, s.sl, by simp [s.al], fun j u z hu hz => ?_, fun j hj => s.an j (by simp at hj; omega), s.mem, s.sep, s.wd⟩
    rcases hlen v y j u z hu hz with ⟨h1, h2, h3⟩ | ⟨rfl, rfl, rfl⟩
    · exact s.ar j u z h2 h3
    · rw [s.an _ (Nat.le_refl _)]; exact hv
  unfold chkX at h
  split at h
  · rename_i n m
    simp only [beq_iff_eq] at h; subst h
    have hn := s.sl n
    rcases own_or (Fr.get φ n) with ⟨k, r, he⟩ | hne
    · have ht : takeX φ (.t n) = (.own k r, (n, .sl k r) :: φ) := by simp [takeX, he]
      rw [ht]
      rw [he] at hn
      have hk : Key.arg vs.length ≠ Key.slot n := by simp
      have hf := foot_move ρ hk (s.an _ (Nat.le_refl _))
      have ho : ∀ k, k ≠ .slot n → k ≠ .arg vs.length → ρ.move (.slot n) (.arg vs.length) k = ρ k := fun k h h' => Own.move_other _ h h'
      refine ⟨ρ.move (.slot n) (.arg vs.length), ⟨s.sz, s.df, fun i => ?_, by simp [s.al], fun j u z hu hz => ?_, fun j hj => ?_, s.mem.own (fun _ => ho _ (by simp) (by simp)) (fun _ _ => ho _ (by simp) (by simp)) (by rw [hf]; exact fun _ _ h => h), s.sep.move hk, s.wd⟩, Goes.move _ _ _ hk (by simp) (by simp)⟩
      · rw [hf, get_cons]
        by_cases hi : i = n
        · subst hi; simp only [if_true]; rw [Own.move_from]; exact R.RL (.pr hn.1)
        · simp only [hi, if_false]; rw [ho _ (by simpa using hi) (by simp)]; exact s.sl i
      · rw [hf]
        rcases hlen _ _ j u z hu hz with ⟨h1, h2, h3⟩ | ⟨rfl, rfl, rfl⟩
        · rw [ho _ (by simp) (by simp; omega)]; exact s.ar j u z h2 h3
        · rw [Own.move_to _ hk]; exact hn
      · simp at hj; rw [ho _ (by simp) (by simp; omega)]; exact s.an j (by omega)
    · rcases nils_or (Fr.get φ n) with ⟨k, he⟩ | hnn
      · have ht : takeX φ (.t n) = (.nils k, (n, .sl k []) :: φ) := by simp [takeX, he]
        rw [ht]
        have h0 := (RL_other hne).1 hn
        rw [he] at h0
        have hx := h0.1.nils_inv
        have hkey := key (.nils k) (a.tmps.getD n Go.undef) ((RL_other (by simp)).2 ⟨h0.1, rfl⟩)
        refine ⟨ρ, ⟨hkey.sz, hkey.df, fun i => ?_, hkey.al, hkey.ar, hkey.an, hkey.mem, hkey.sep, hkey.wd⟩, .refl _ _ _⟩
        rw [get_cons]
        by_cases hi : i = n
        · subst hi
          simp only [if_true]
          rw [hx, h0.2]
          exact R.RL (.pr (pr_nil _ _ k))
        · simp only [hi, if_false]; exact s.sl i
      · have ht : takeX φ (.t n) = (Fr.get φ n, φ) := by
          simp only [takeX]
        rw [ht]
        have h0 := (RL_other hne).1 hn
        exact ⟨ρ, key _ _ ((RL_other hne).2 ⟨h0.1, rfl⟩), .refl _ _ _⟩
  · rename_i y v
    exact ⟨ρ, key _ _ (cVal_ok h _ _ _), .refl _ _ _⟩
  · rename_i f g
    simp only [beq_iff_eq] at h; subst h
    exact ⟨ρ, key _ _ (R.RL (.pr (.fn _))), .refl _ _ _⟩
  · cases h

theorem takeAll_ok : ∀ {Xs : List Operand} {us : List AX} {φ : Fr} {ρ : Own} {vs : List V} {xs : List Value}, StA E nt φ H ρ ι a w vs xs → chkXs Xs us = true →
    ∃ ρ', StA E nt (takeAll φ us).2 H ρ' ι a w (vs ++ (takeAll φ us).1) (xs ++ Xs.map a.eval) ∧ Goes ρ ι w ρ' ι w
  | [], [], φ, ρ, vs, xs, s, _ => ⟨ρ, by simpa [takeAll] using s, .refl _ _ _⟩
  | X :: Xs, u :: us, φ, ρ, vs, xs, s, h => by
    simp only [chkXs, Bool.and_eq_true] at h
    obtain ⟨ρ1, s1, g1⟩ := take_ok s h.1
    obtain ⟨ρ2, s2, g2⟩ := takeAll_ok s1 h.2
    refine ⟨ρ2, ?_, g1.trans g2⟩
    simp only [takeAll, List.map_cons]
    simpa using s2
  | [], _ :: _, _, _, _, _, _, h => by simp [chkXs] at h
  | _ :: _, [], _, _, _, _, _, h => by simp [chkXs] at h
end

/-- The fence that lets everything in, of an activation (none) or of a round of the loop l. -/
def wideR (r : Option Nat) : Fence := { Fence.wide with round := r }

theorem calls_wideR {r : Option Nat} {n : Nat} {P : Program} {f : FuncId} {args : Array Value} {w : World} {R : Ending → World → Prop} : CallsIn (wideR r) n P f args w R ↔ Calls P f args w R :=
  callsIn_wide (n := n) (P := P) (f := f) (args := args) (w := w) (R := R)

/-- What one operation runs to. -/
def Runs (P : Program) (o : Oper) (a : Act) (w : World) (K : Value → World → Prop) : Prop :=
  (∃ x w1, (execOp a.eval o).run P w = .ok (.value x) w1 ∧ K x w1) ∨ (∃ w1, (execOp a.eval o).run P w = .ok .skip w1 ∧ K Go.undef w1) ∨
  (∃ f args w0, (execOp a.eval o).run P w = .ok (.enter f args) w0 ∧ Calls P f args w0 fun e w1 => ∃ x, e = .returned x ∧ K x w1) ∨
  (∃ l f tmps assign body w0, (execOp a.eval o).run P w = .ok (.round l f tmps assign body) w0 ∧ RoundIn Fence.wide 0 P l f tmps assign body w0 fun e w1 => ∃ x, e = .returned x ∧ K x w1)

theorem Runs.value {P : Program} {o : Oper} {a : Act} {w w1 : World} {K : Value → World → Prop} (x : Value) (h : (execOp a.eval o).run P w = .ok (.value x) w1) (k : K x w1) : Runs P o a w K :=
  .inl ⟨x, w1, h, k⟩

theorem defer_only {P : Program} {o : Oper} {ρ : Operand → Value} {c : Call} (ho : o.op = .defer c) {w w1 : World} {x : Next} (h : (execOp ρ o).run P w = .ok x w1) : ∃ d, x = .defer d := by
  simp only [execOp, ho, Sem.run_bind] at h
  cases hr : (resolve ρ c o.type).run P w with
  | ok d w2 =>
    rw [hr] at h
    simp only [Result.andThen, Sem.run_pure, Result.ok.injEq] at h
    exact ⟨d, h.1.symm⟩
  | halt e w2 => rw [hr] at h; simp [Result.andThen] at h

theorem Runs.wp {P : Program} {o : Oper} {a : Act} {w : World} {K : Value → World → Prop} (h : Runs P o a w K) (r : Option Nat) {next : Act → World → Prop} {Q : Exit → Act → World → Prop}
    (hn : ∀ x w1, K x w1 → next (a.put o.dst x) w1) : o.wpIn (wideR r) 0 P a w next Q := by
  have hd : ∀ x w1, (execOp a.eval o).run P w = .ok x w1 → (∀ d, x ≠ .defer d) → (o.semAt (wideR r).round a.eval).run P w = .ok x w1 := by
    intro x w1 hx hne
    rw [Oper.semAt_eq]
    · exact hx
    · intro c hc
      obtain ⟨d, e⟩ := defer_only hc hx
      exact hne d e
  refine ⟨fun _ _ => trivial, ?_⟩
  rcases h with ⟨x, w1, hr, hk⟩ | ⟨w1, hr, hk⟩ | ⟨f, args, w0, hr, hk⟩ | ⟨l, f, tmps, assign, body, w0, hr, hk⟩
  · rw [hd _ _ hr (by simp), Oper.uponIn_value]; exact hn _ _ hk
  · rw [hd _ _ hr (by simp), Oper.uponIn_skip]; exact hn _ _ hk
  · rw [hd _ _ hr (by simp), Oper.uponIn_enter]
    refine ⟨fun h => by simp [wideR, Fence.wide] at h, calls_wideR.2 (hk.mono fun e w1 ⟨x, he, hx⟩ => by subst he; exact hn _ _ hx)⟩
  · rw [hd _ _ hr (by simp), Oper.uponIn_round]
    exact ⟨fun h => by simp [wideR, Fence.wide] at h, RoundIn.mono (F := Fence.wide) hk (fun e w1 ⟨x, he, hx⟩ => by subst he; exact hn _ _ hx)⟩

/-- What is asked behind an operation that gives v. -/
def After (E : LblP) (nt : Cx) (φ : Fr) (H : Heap) (v : V) (ρ : Own) (ι : Places) (a : Act) (w : World) (x : Value) (w1 : World) : Prop :=
  ∃ ρ1 ι1, StA E nt φ H ρ1 ι1 a w1 [v] [x] ∧ Goes ρ ι w ρ1 ι1 w1

theorem After.same {E : LblP} {nt : Cx} {φ : Fr} {H : Heap} {ρ : Own} {ι : Places} {a : Act} {w : World} (s : StA E nt φ H ρ ι a w [] []) {v : V} {x : Value} (h : R w (foot ρ) ι v x) : After E nt φ H v ρ ι a w x w :=
  ⟨ρ, ι, s.value h, .refl _ _ _⟩

/-! ### Inversions -/
section
variable {w : World} {F : Nat → Nat → Prop} {ι : Places} {x : Value}
theorem R.int_inv {k : IntKind} {n : Int} (h : R w F ι (.int k n) x) : x = .int k n := by cases h with | pr h => cases h; rfl
theorem R.bool_inv {b : Bool} (h : R w F ι (.bool b) x) : x = .bool b := by cases h with | pr h => cases h; rfl
theorem R.str_inv {s : List UInt8} (h : R w F ι (.str s) x) : x = .string ⟨s.toArray⟩ := by cases h with | pr h => cases h; rfl
theorem R.no_inv (h : R w F ι .no x) : x = Go.undef := by cases h with | pr h => cases h | no => rfl
theorem R.agg_inv {cs : List V} (h : R w F ι (.agg cs) x) : ∃ xs, x = .agg xs ∧ xs.size = cs.length ∧ ∀ (j : Nat) (v : V) (y : Value), cs[j]? = some v → xs[j]? = some y → R w F ι v y := by
  cases h with
  | pr h => cases h
  | agg cs xs hs h => exact ⟨xs, rfl, hs, h⟩
theorem R.tup_inv {cs : List V} (h : R w F ι (.tup cs) x) : ∃ xs, x = .tuple xs ∧ xs.size = cs.length ∧ ∀ (j : Nat) (v : V) (y : Value), cs[j]? = some v → xs[j]? = some y → R w F ι v y := by
  cases h with
  | pr h => cases h
  | tup cs xs hs h => exact ⟨xs, rfl, hs, h⟩
theorem R.ptr_inv {i off : Nat} (h : R w F ι (.ptr i off) x) : ∃ b base, ι[i]? = some (.blk b base) ∧ x = .pointer (some ⟨b, base + off, none⟩) := by
  cases h with
  | pr h => cases h
  | ptr _ _ b base h => exact ⟨b, base, h, rfl⟩
theorem R.ms_inv {i off len cap : Nat} (h : R w F ι (.ms i off len cap) x) : ∃ b base cap' ad, ι[i]? = some (.blk b base) ∧ len ≤ cap ∧ cap ≤ cap' ∧ (cap ≠ 0 → ad = some ⟨b, base + off, none⟩) ∧ (ad = none → cap' = 0) ∧ x = .slice ad len cap' := by
  cases h with
  | pr h => cases h
  | ms _ _ _ _ b base cap' ad h h1 h2 ha hn => exact ⟨b, base, cap', ad, h, h1, h2, ha, hn, rfl⟩
theorem R.mg_inv {k i off len cap : Nat} (h : R w F ι (.mg k i off len cap) x) : ∃ b base cap' ad, ι[i]? = some (.blk b base) ∧ len ≤ cap ∧ cap ≤ cap' ∧ (cap' ≠ 0 → ad = some ⟨b, base + off, none⟩) ∧ (ad = none → cap' = 0) ∧ Cap w b (base + off + cap' * k) ∧ x = .slice ad len cap' := by
  cases h with
  | pr h => cases h
  | mg _ _ _ _ _ b base cap' ad h h1 h2 ha hn hc => exact ⟨b, base, cap', ad, h, h1, h2, ha, hn, hc, rfl⟩
/-- A list that can grow is a part of a block. -/
theorem R.mg_ms {k i off len cap : Nat} (h : R w F ι (.mg k i off len cap) x) : R w F ι (.ms i off len cap) x := by
  obtain ⟨b, base, cap', ad, h1, h2, h3, h4, h5, _, rfl⟩ := h.mg_inv
  exact .ms _ _ _ _ b base cap' ad h1 h2 h3 (fun h => h4 (by omega)) h5
theorem R.sl_inv {k : Nat} {rows : List (List V)} (h : R w F ι (.sl k rows) x) : PR w F (.sl k rows) x := by
  cases h with
  | pr h => exact h
theorem R.rp_inv {row : List V} {off : Nat} (h : R w F ι (.rp row off) x) : ∃ b base, ∃ vals : Nat → Value, x = .pointer (some ⟨b, base + off, none⟩) ∧
    (∀ (j : Nat) (v : V), row[j]? = some v → w.cell? ⟨b, base + j, none⟩ = some (vals j) ∧ ¬ F b (base + j)) ∧ ∀ (j : Nat) (v : V), row[j]? = some v → PR w F v (vals j) := by
  cases h with
  | pr h => cases h
  | rp _ _ b base vals hc hr => exact ⟨b, base, vals, rfl, hc, hr⟩
theorem R.fn_inv {f : Fn} {l m : List V} (h : R w F ι (.fn f l m) x) : ∃ xs ys : Array Value, x = .func f xs ys ∧ xs.size = l.length ∧ ys.size = m.length ∧
    (∀ (j : Nat) (v : V) (y : Value), l[j]? = some v → xs[j]? = some y → R w F ι v y) ∧ ∀ (j : Nat) (v : V) (y : Value), m[j]? = some v → ys[j]? = some y → R w F ι v y := by
  cases h with
  | pr h => cases h; exact ⟨#[], #[], rfl, rfl, rfl, by simp, by simp⟩
  | fn _ _ _ xs ys hs ht h h' => exact ⟨xs, ys, rfl, hs, ht, h, h'⟩
end

theorem R.yld_inv {w : World} {F : Nat → Nat → Prop} {ι : Places} {x : Value} {i : Nat} (h : R w F ι (.yld i) x) : ∃ l, ι[i]? = some (.lp l) ∧ x = .func (.yield l) #[] #[] := by
  cases h with
  | pr h => cases h
  | yld _ l h => exact ⟨l, h, rfl⟩

theorem R.bptr_inv {w : World} {F : Nat → Nat → Prop} {ι : Places} {x : Value} {i : Nat} (h : R w F ι (.bptr i) x) : ∃ l, ι[i]? = some (.lp l) ∧ x = .pointer (some ⟨l, 0, none⟩) := by
  cases h with
  | pr h => cases h
  | bptr _ l h => exact ⟨l, h, rfl⟩

theorem R.mptr_inv {w : World} {F : Nat → Nat → Prop} {ι : Places} {x : Value} {i : Nat} (h : R w F ι (.mptr i) x) : ∃ l, ι[i]? = some (.lp l) ∧ x = .map (some l) := by
  cases h with
  | pr h => cases h
  | mptr _ l h => exact ⟨l, h, rfl⟩

theorem R.nilm_inv {w : World} {F : Nat → Nat → Prop} {ι : Places} {x : Value} (h : R w F ι .nilm x) : x = .map none := by
  cases h with
  | pr h => cases h; rfl

theorem R.mix_inv {w : World} {F : Nat → Nat → Prop} {ι : Places} {x : Value} {k : Nat} {rows : List (List V)} {i n : Nat} (h : R w F ι (.mix k rows i n) x) : ∃ b off cap, ι[i]? = some (.blk b (off + rows.length * k)) ∧ rows.length + n ≤ cap ∧
    PR w F (.sl k rows) (.slice (some ⟨b, off, none⟩) rows.length cap) ∧ Cap w b (off + cap * k) ∧ x = .slice (some ⟨b, off, none⟩) (rows.length + n) cap := by
  cases h with
  | pr h => cases h
  | mix _ _ _ _ b off cap h hl hp hc => exact ⟨b, off, cap, h, hl, hp, hc, rfl⟩

theorem R.no_lrec {w : World} {F : Nat → Nat → Prop} {ι : Places} {x : Value} {st pend lbl : Nat} {ps ks : List Nat} {vs : List V} (h : R w F ι (.lrec st pend lbl ps ks vs) x) : False := by
  cases h with
  | pr h => cases h

theorem add_eq (b o n : Nat) : (⟨b, o, none⟩ : Addr).add n = ⟨b, o + n, none⟩ := by
  unfold Addr.add
  split
  · subst_vars; simp
  · rfl

end Go.AM
