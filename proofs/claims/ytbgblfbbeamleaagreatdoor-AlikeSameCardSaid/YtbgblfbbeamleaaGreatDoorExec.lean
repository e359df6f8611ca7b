/-
  The check of an operation against the model's, and that the checked ones tell the truth.
-/
import Derived.Test.YtbgblfbbeamleaaGreatDoorCalm
import Derived.Test.YtbgblfbbeamleaaGreatDoorEqa
import Derived.Test.YtbgblfbbeamleaaGreatDoorMpx
import Derived.Test.YtbgblfbbeamleaaGreatDoorClr
import Derived.Test.YtbgblfbbeamleaaGreatDoorCallx
import Derived.Test.YtbgblfbbeamleaaGreatDoorCallh
import Derived.Test.YtbgblfbbeamleaaGreatDoorFrz
import Derived.LoopN
set_option linter.unusedVariables false
set_option linter.unusedSimpArgs false
namespace Go.AM

def chkOp (P : Program) (op : Op) (ao : AOp) : Bool :=
  match ao with
  | .tk x => match op with
    | .move X | .assign X => chkX X x
    | _ => false
  | .mv x => match op with
    | .move X | .assign X => chkX X x
    | _ => false
  | .cs x => match op with
    | .convert src dst X => chkX X x && isString P src && isString P dst
    | _ => false
  | .frz _ x => match op with
    | .move X | .assign X => chkX X x
    | _ => false
  | .pick c x y => match op with
    | .pick C X Y => chkX C c && chkX X x && chkX Y y
    | _ => false
  | .ia b _ x y => match op with
    | .binOp b' _ X Y _ => b == b' && chkX X x && chkX Y y
    | _ => false
  | .ic b x y => match op with
    | .binOp b' _ X Y _ => b == b' && chkX X x && chkX Y y
    | _ => false
  | .sop b x y => match op with
    | .binOp b' _ X Y _ => b == b' && chkX X x && chkX Y y
    | _ => false
  | .eqb neg x y => match op with
    | .binOp b t X Y _ => b == (if neg then .neq else .eql) && isBool P t && chkX X x && chkX Y y
    | _ => false
  | .isn neg x => match op with
    | .binOp b t X Y _ => b == (if neg then .neq else .eql) && isSliceT P t && chkX X x && isNilS Y
    | _ => false
  | .isp neg x => match op with
    | .binOp b t X Y _ => b == (if neg then .neq else .eql) && isPtrT P t && chkX X x && isNilP Y
    | _ => false
  | .eqa neg ks x y => match op with
    | .binOp b t X Y _ => b == (if neg then .neq else .eql) && eqaIs P t ks && chkX X x && chkX Y y
    | _ => false
  | .notb x => match op with
    | .unOp .not _ X => chkX X x
    | _ => false
  | .neg _ x => match op with
    | .unOp .neg _ X => chkX X x
    | _ => false
  | .cpl _ x => match op with
    | .unOp .xor _ X => chkX X x
    | _ => false
  | .conv k x => match op with
    | .convert src dst X => (P.underlying src).isSome && isInt P dst k && chkX X x
    | _ => false
  | .s2b x => match op with
    | .convert src dst X => isString P src && isBytes P dst && chkX X x
    | _ => false
  | .b2s x => match op with
    | .convert src dst X => isBytes P src && isString P dst && chkX X x
    | _ => false
  | .box x => match op with
    | .box _ X => chkX X x
    | _ => false
  | .alloc zero => match op with
    | .alloc t => zeroIs P t zero
    | _ => false
  | .allocb T _ => match op with
    | .alloc t => t == T && zeroIs P t [.nilp, .own 1 []]
    | _ => false
  | .mkm _ _ => match op with
    | .makeMap _ none => true
    | _ => false
  | .mlk ok zero ag kinds x k => match op with
    | .lookup t X K ok' => ok == ok' && mapIs P t ag kinds && mapZero P t zero && chkX X x && chkX K k
    | _ => false
  | .mst ag kinds x k v => match op with
    | .mapUpdate t X K Y => mapIs P t ag kinds && chkX X x && chkX K k && chkX Y v
    | _ => false
  | .bld zero qs => match op with
    | .build t ps => chkBld P t ps zero qs
    | _ => false
  | .bsl k zero n qs _ => match op with
    | .buildSlice t n' ps => n == n' && chkBsl P t k n ps zero qs
    | _ => false
  | .mk k zero bytes l c => match op with
    | .makeSlice t L C => chkMk P t k bytes zero && chkX L l && chkX C c
    | _ => false
  | .ld agg p => match op with
    | .load t X => aggIs P t agg && chkX X p
    | _ => false
  | .ldo p => match op with
    | .load t X => aggIs P t none && chkX X p
    | _ => false
  | .st n p x => match op with
    | .store t X Y => sizeIs P t n && chkX X p && chkX Y x
    | _ => false
  | .nck x => match op with
    | .nilCheck X => chkX X x
    | _ => false
  | .fa off p => match op with
    | .fieldAddr t X i => structField P t i (fun f => f.offset == off && (match P.info? f.type with | some q => q.size != 0 | none => false)) && chkX X p
    | _ => false
  | .ixa k n x i => match op with
    | .indexAddr t X I => (match n with | some n => arrayIs P t n k | none => isSlice P t k) && chkX X x && chkX I i
    | _ => false
  | .fld agg off x => match op with
    | .field t X i => structField P t i (fun f => f.offset == off && aggIs P f.type agg) && chkX X x
    | _ => false
  | .ixs x i => match op with
    | .index t X I => isString P t && chkX X x && chkX I i
    | _ => false
  | .ixv agg k n x i => match op with
    | .index t X I => (match P.underlying t with | some (.array m e) => m == n && sizeIs P e k && aggIs P e agg | _ => false) && chkX X x && chkX I i
    | _ => false
  | .slc x lo hi => match op with
    | .slice t X Lo Hi none => isString P t && chkX X x && chkO Lo lo && chkO Hi hi
    | _ => false
  | .sls k x lo hi mx => match op with
    | .slice t X Lo Hi Mx => isSlice P t k && chkX X x && chkO Lo lo && chkO Hi hi && chkO Mx mx && (!mx.isSome || hi.isSome)
    | _ => false
  | .slp k n x lo hi mx => match op with
    | .slice t X Lo Hi Mx => ptrElem P t n k && chkX X x && chkO Lo lo && chkO Hi hi && chkO Mx mx && (!mx.isSome || hi.isSome)
    | _ => false
  | .ext x i => match op with
    | .extract X i' => i == i' && chkX X x
    | _ => false
  | .len str x => match op with
    | .call { callee := .builtin .len, args, argTypes } => (match args.toList, argTypes[0]? with
      | [X], some t => chkX X x && lenType P t && isString P t == str
      | _, _ => false)
    | _ => false
  | .lena n => match op with
    | .call { callee := .builtin .len, args, argTypes } => (match args.toList, argTypes[0]? with
      | [X], some t => arrLen P t n
      | _, _ => false)
    | _ => false
  | .app k bytes s x m => match op with
    | .call { callee := .builtin .append, args, argTypes } => (match args.toList with
      | [S, X] => chkX S s && chkX X x && chkApp P argTypes k bytes
      | _ => false)
    | _ => false
  | .apz k bytes s x => match op with
    | .call { callee := .builtin .append, args, argTypes } => (match args.toList with
      | [S, X] => chkX S s && chkX X x && chkApp P argTypes k bytes
      | _ => false)
    | _ => false
  | .mx isMax xs => match op with
    | .call { callee := .builtin b, args, argTypes } => b == (if isMax then .max else .min) && (match args.toList, xs with
      | [X, Y], [x, y] => chkX X x && chkX Y y
      | _, _ => false)
    | _ => false
  | .call f xs => match op with
    | .call { callee := .value (.func g), args, argTypes } => f == g && Nat.blt f yBase && chkXs args.toList xs
    | _ => false
  | .mkz k zero bytes l c => match op with
    | .makeSlice t L C => chkMk P t k bytes zero && chkX L l && chkX C c
    | _ => false
  | .callx f xs => match op with
    | .call { callee := .value (.func g), args, argTypes } => (f == g && Nat.blt f yBase || f == wNo g) && chkXs args.toList xs
    | _ => false
  | .ldq agg p _ => match op with
    | .load t X => aggIs P t agg && chkX X p
    | _ => false
  | .ldoq p _ => match op with
    | .load t X => aggIs P t none && chkX X p
    | _ => false
  | .callh f xs r => match op with
    | .call { callee := .value (.func g), args, argTypes } => f == g && Nat.blt f yBase && chkXs args.toList xs && r.isT
    | _ => false
  | .callvh fx xs r => match op with
    | .call { callee := .value F, args, argTypes } => chkX F fx && chkXs args.toList xs && r.isT
    | _ => false
  | .stq n p x _ => match op with
    | .store t X Y => sizeIs P t n && chkX X p && chkX Y x
    | _ => false
  | .cpy k d sx => match op with
    | .call { callee := .builtin .copy, args, argTypes } => (match args.toList with
      | [D, S] => chkX D d && chkX S sx && chkCpy P argTypes k
      | _ => false)
    | _ => false
  | .clr _ zero d => match op with
    | .call { callee := .builtin .clear, args, argTypes } => (match args.toList with
      | [D] => chkX D d && chkClr P argTypes zero
      | _ => false)
    | _ => false
  | .callv fx xs => match op with
    | .call { callee := .value F, args, argTypes } => chkX F fx && chkXs args.toList xs
    | _ => false
  | .callc f xs => match op with
    | .call { callee := .value (.func g), args, argTypes } => f == g && Nat.blt f yBase && chkXs args.toList xs
    | _ => false
  | .callvc fx xs => match op with
    | .call { callee := .value F, args, argTypes } => chkX F fx && chkXs args.toList xs
    | _ => false
  | .tkf x => match op with
    | .move X | .assign X => chkX X x
    | _ => false
  | .stf p x => match op with
    | .store t X Y => sizeIs P t 1 && chkX X p && chkX Y x
    | _ => false
  | .stw n p x => match op with
    | .store t X Y => sizeIs P t n && chkX X p && chkX Y x
    | _ => false
  | .apm k bytes s x => match op with
    | .call { callee := .builtin .append, args, argTypes } => (match args.toList with
      | [S, X] => chkX S s && chkX X x && chkApp P argTypes k bytes
      | _ => false)
    | _ => false
  | .ldf agg p => match op with
    | .load t X => aggIs P t agg && chkX X p
    | _ => false
  | .tkz x => match op with
    | .move X | .assign X => chkX X x
    | _ => false
  | .callk f xs => match op with
    | .call { callee := .value (.func g), args, argTypes } => f == g && chkXs args.toList xs
    | _ => false
  | .callck f xs => match op with
    | .call { callee := .value (.func g), args, argTypes } => f == g && chkXs args.toList xs
    | _ => false
  | .callvk fx xs => match op with
    | .call { callee := .value F, args, argTypes } => chkX F fx && chkXs args.toList xs
    | _ => false
  | .ldm p => match op with
    | .load t X => aggIs P t none && chkX X p
    | _ => false
  | .mne ag kinds zero x k => match op with
    | .mapEntry t X K => mapIs P t ag kinds && mapZero P t zero && chkX X x && chkX K k
    | _ => false
  | .mes x st v => match op with
    | .entryStore t X S Y => chkX X x && chkX S st && chkX Y v
    | _ => false
  | .callb f xs => match op with
    | .call { callee := .value (.func g), args, argTypes } => f == g && Nat.blt f yBase && chkXs args.toList xs
    | _ => false
  | .callr f xs => match op with
    | .call { callee := .value (.func g), args, argTypes } => f == g && Nat.blt f yBase && chkXs args.toList xs
    | _ => false
  | .mkf f l m => match op with
    | .makeFunc g Xs Ys => f == g && chkXs Xs.toList l && chkXs Ys.toList m
    | _ => false
  | _ => false

section
variable {P : Program} {E : LblP} {nt : Cx} {φ φ' : Fr} {H H' : Heap} {ρ : Own} {ι : Places} {a : Act} {w : World} {o : Oper} {call : CallF} {v : V}

theorem arr_one {α : Type} {xs : Array α} {x : α} (h : xs.toList = [x]) : xs = #[x] := by
  apply Array.ext'; simpa using h
theorem arr_two {α : Type} {xs : Array α} {x y : α} (h : xs.toList = [x, y]) : xs = #[x, y] := by
  apply Array.ext'; simpa using h

mutual
theorem V.eqb_eq : ∀ {a b : V}, V.eqb a b = true → a = b := by
  intro a b h
  cases a <;> cases b <;> simp only [V.eqb, Bool.and_eq_true, decide_eq_true_eq, Bool.false_eq_true] at h <;> try rfl
  all_goals first
    | (subst h; rfl)
    | (obtain ⟨rfl, rfl⟩ := h; rfl)
    | (rw [V.eqbL_eq h])
    | (rw [h.1, V.eqbR_eq h.2])
    | (rw [h.2, V.eqbL_eq h.1])
    | (obtain ⟨⟨h1, h2⟩, h3⟩ := h; rw [h1, V.eqbL_eq h2, V.eqbL_eq h3])
    | (obtain ⟨⟨h1, h2⟩, h3⟩ := h; rw [h1, h2, h3])
    | (obtain ⟨⟨⟨h1, h2⟩, h3⟩, h4⟩ := h; rw [h1, V.eqbR_eq h2, h3, h4])
    | (obtain ⟨⟨⟨h1, h2⟩, h3⟩, h4⟩ := h; rw [h1, h2, V.eqbR_eq h3, V.eqbL_eq h4])
    | (obtain ⟨⟨⟨h1, h2⟩, h3⟩, h4⟩ := h; rw [h1, h2, h3, h4])
    | (obtain ⟨⟨⟨⟨h1, h2⟩, h3⟩, h4⟩, h5⟩ := h; rw [h1, h2, h3, h4, h5])
    | (obtain ⟨⟨⟨⟨⟨h1, h2⟩, h3⟩, h4⟩, h5⟩, h6⟩ := h; rw [h1, h2, h3, h4, h5, V.eqbL_eq h6])
theorem V.eqbL_eq : ∀ {a b : List V}, V.eqbL a b = true → a = b
  | [], [], _ => rfl
  | [], _ :: _, h => by simp [V.eqbL] at h
  | _ :: _, [], h => by simp [V.eqbL] at h
  | a :: r, b :: s, h => by
    simp only [V.eqbL, Bool.and_eq_true] at h
    rw [V.eqb_eq h.1, V.eqbL_eq h.2]
theorem V.eqbR_eq : ∀ {a b : List (List V)}, V.eqbR a b = true → a = b
  | [], [], _ => rfl
  | [], _ :: _, h => by simp [V.eqbR] at h
  | _ :: _, [], h => by simp [V.eqbR] at h
  | a :: r, b :: s, h => by
    simp only [V.eqbR, Bool.and_eq_true] at h
    rw [V.eqbL_eq h.1, V.eqbR_eq h.2]
end
theorem heapEqb_eq : ∀ {a b : Heap}, heapEqb a b = true → a = b
  | [], [], _ => rfl
  | [], x :: _, h => by cases x <;> simp [heapEqb] at h
  | x :: _, [], h => by cases x <;> simp [heapEqb] at h
  | none :: a, none :: b, h => by
    simp only [heapEqb] at h
    rw [heapEqb_eq h]
  | none :: a, some y :: b, h => by simp [heapEqb] at h
  | some x :: a, none :: b, h => by simp [heapEqb] at h
  | some x :: a, some y :: b, h => by
    simp only [heapEqb, Bool.and_eq_true] at h
    rw [V.eqbL_eq h.1, heapEqb_eq h.2]
theorem callSame_inv {call : CallF} {f : Nat} {vs : List V} {H : Heap} {r : V} (h : callSame call f vs H = some r) : call f vs H = some (r, H) := by
  unfold callSame at h
  split at h <;> try cases h
  rename_i hs
  split at h <;> try cases h
  rename_i he
  rw [hs, heapEqb_eq he]

set_option maxHeartbeats 1000000 in
theorem op_sound (hcall : CallOK E P call) (s : StA E nt φ H ρ ι a w [] []) (ao : AOp) (hW : nt.w = true ∨ ao.wide = false) (hc : chkOp P o.op ao = true) (hs : stepA call φ H ao = some (v, φ', H')) : Runs P o a w (After E nt φ' H' v ρ ι a w) := by
  cases ao with
  | tk x =>
    simp only [stepA, Option.some.injEq, Prod.mk.injEq] at hs
    obtain ⟨rfl, rfl, rfl⟩ := hs
    simp only [chkOp] at hc
    split at hc
    · exact tk_ok s hc (.inl ‹_›)
    · exact tk_ok s hc (.inr ‹_›)
    · cases hc
  | mv x =>
    simp only [stepA, Option.some.injEq, Prod.mk.injEq] at hs
    obtain ⟨rfl, rfl, rfl⟩ := hs
    simp only [chkOp] at hc
    split at hc
    · exact mv_ok s hc (.inl ‹_›)
    · exact mv_ok s hc (.inr ‹_›)
    · cases hc
  | cs x =>
    simp only [chkOp] at hc
    split at hc <;> try cases hc
    simp only [Bool.and_eq_true] at hc
    simp only [stepA] at hs
    split at hs <;> try cases hs
    rename_i t e
    rw [← e]
    exact mvconv_ok s hc.1.1 ‹_› hc.1.2 hc.2 e
  | frz k x =>
    simp only [stepA] at hs
    split at hs
    · rename_i i off len cap e
      split at hs <;> try cases hs
      rename_i cs hi
      split at hs <;> try cases hs
      rename_i hh
      simp only [chkOp] at hc
      split at hc
      · exact frz_ok s hc (.inl ‹_›) e hi hh.1 hh.2
      · exact frz_ok s hc (.inr ‹_›) e hi hh.1 hh.2
      · cases hc
    · rename_i k' rows e
      simp only [Option.some.injEq, Prod.mk.injEq] at hs
      obtain ⟨rfl, rfl, rfl⟩ := hs
      rw [← e]
      simp only [chkOp] at hc
      split at hc
      · exact mv_ok s hc (.inl ‹_›)
      · exact mv_ok s hc (.inr ‹_›)
      · cases hc
    · cases hs
  | pick c x y =>
    simp only [chkOp] at hc
    split at hc <;> try cases hc
    simp only [Bool.and_eq_true] at hc
    simp only [stepA] at hs
    split at hs <;> try cases hs
    exact pick_ok s hc.1.1 hc.1.2 hc.2 ‹_› ‹_›
  | ia b k x y =>
    simp only [chkOp] at hc
    split at hc <;> try cases hc
    simp only [Bool.and_eq_true, beq_iff_eq] at hc
    obtain ⟨⟨rfl, h1⟩, h2⟩ := hc
    simp only [stepA] at hs
    split at hs <;> try cases hs
    rename_i e1 e2
    split at hs <;> try cases hs
    rename_i hk
    obtain ⟨rfl, hk⟩ := hk
    simp only [Option.map_eq_some_iff, Prod.mk.injEq] at hs
    obtain ⟨_, ha, rfl, rfl, rfl⟩ := hs
    exact ia_ok s h1 h2 ‹_› e1 e2 hk ha
  | ic b x y =>
    simp only [chkOp] at hc
    split at hc <;> try cases hc
    simp only [Bool.and_eq_true, beq_iff_eq] at hc
    obtain ⟨⟨rfl, h1⟩, h2⟩ := hc
    simp only [stepA] at hs
    split at hs <;> try cases hs
    rename_i e1 e2
    split at hs <;> try cases hs
    rename_i hk
    subst hk
    simp only [Option.map_eq_some_iff, Prod.mk.injEq] at hs
    obtain ⟨_, ha, rfl, rfl, rfl⟩ := hs
    exact ic_ok s h1 h2 ‹_› e1 e2 ha
  | sop b x y =>
    simp only [chkOp] at hc
    split at hc <;> try cases hc
    simp only [Bool.and_eq_true, beq_iff_eq] at hc
    obtain ⟨⟨rfl, h1⟩, h2⟩ := hc
    simp only [stepA] at hs
    split at hs <;> try cases hs
    rename_i e1 e2
    simp only [Option.map_eq_some_iff, Prod.mk.injEq] at hs
    obtain ⟨_, ha, rfl, rfl, rfl⟩ := hs
    exact sop_ok s h1 h2 ‹_› e1 e2 ha
  | eqb neg x y =>
    simp only [chkOp] at hc
    split at hc <;> try cases hc
    rename_i ho
    simp only [Bool.and_eq_true, beq_iff_eq] at hc
    obtain ⟨⟨⟨rfl, h0⟩, h1⟩, h2⟩ := hc
    simp only [stepA] at hs
    split at hs <;> try cases hs
    rename_i e1 e2
    exact eqb_ok s h1 h2 ho h0 e1 e2
  | isn neg x =>
    simp only [chkOp] at hc
    split at hc <;> try cases hc
    rename_i ho
    simp only [Bool.and_eq_true, beq_iff_eq] at hc
    obtain ⟨⟨⟨rfl, h0⟩, h1⟩, h2⟩ := hc
    simp only [stepA] at hs
    split at hs <;> try cases hs
    · rename_i e1
      split at hs <;> try cases hs
      rename_i hne
      exact isn_ok s h1 h2 ho h0 (sl_some (e1 ▸ rd_ok s h1) hne)
    · rename_i e1
      split at hs <;> try cases hs
      rename_i hne
      exact isn_ok s h1 h2 ho h0 (ms_some (e1 ▸ rd_ok s h1) hne)
  | isp neg x =>
    simp only [chkOp] at hc
    split at hc <;> try cases hc
    rename_i ho
    simp only [Bool.and_eq_true, beq_iff_eq] at hc
    obtain ⟨⟨⟨rfl, h0⟩, h1⟩, h2⟩ := hc
    simp only [stepA] at hs
    split at hs <;> try cases hs
    · rename_i e1
      exact isp_nil s h2 ho h0 (nilp_none (e1 ▸ rd_ok s h1))
    · rename_i e1
      exact isp_ok s h2 ho h0 (ptr_some (e1 ▸ rd_ok s h1))
  | eqa neg ks x y =>
    simp only [chkOp] at hc
    split at hc <;> try cases hc
    rename_i ho
    simp only [Bool.and_eq_true, beq_iff_eq] at hc
    obtain ⟨⟨⟨rfl, h0⟩, h1⟩, h2⟩ := hc
    simp only [stepA] at hs
    split at hs <;> try cases hs
    rename_i e1 e2
    simp only [Option.map_eq_some_iff, Prod.mk.injEq] at hs
    obtain ⟨r, hr, rfl, rfl, rfl⟩ := hs
    exact eqa_ok s h1 h2 ho h0 e1 e2 hr
  | notb x =>
    simp only [chkOp] at hc
    split at hc <;> try cases hc
    simp only [stepA] at hs
    split at hs <;> try cases hs
    exact notb_ok s hc ‹_› ‹_›
  | neg k x =>
    simp only [chkOp] at hc
    split at hc <;> try cases hc
    simp only [stepA] at hs
    split at hs <;> try cases hs
    rename_i e
    split at hs <;> try cases hs
    subst_vars
    exact neg_ok s hc ‹_› e
  | cpl k x =>
    simp only [chkOp] at hc
    split at hc <;> try cases hc
    simp only [stepA] at hs
    split at hs <;> try cases hs
    rename_i e
    split at hs <;> try cases hs
    rename_i hk
    subst hk
    exact cpl_ok s hc ‹_› e rfl
  | conv k x =>
    simp only [chkOp] at hc
    split at hc <;> try cases hc
    simp only [Bool.and_eq_true] at hc
    simp only [stepA] at hs
    split at hs <;> try cases hs
    exact conv_ok s hc.2 ‹_› hc.1.1 hc.1.2 ‹_›
  | b2s x =>
    simp only [chkOp] at hc
    split at hc <;> try cases hc
    simp only [Bool.and_eq_true] at hc
    simp only [stepA] at hs
    split at hs <;> try cases hs
    rename_i hne
    split at hs <;> try cases hs
    rename_i r hr
    simp only [Option.map_eq_some_iff, Prod.mk.injEq] at hs
    obtain ⟨_, ha, rfl, rfl, rfl⟩ := hs
    refine b2s_ok s hc.2 hc.1.1 hc.1.2 ‹_› ?_ hr ha
    have hR := rd_ok s hc.2
    unfold rowsOf at hr
    split at hr
    · rename_i e
      rw [e] at hR
      have := hR.sl_inv
      generalize a.eval _ = y at this
      cases this
      exact ⟨_, _, _, rfl⟩
    · rename_i e
      have : ∀ k r, rd φ x ≠ .own k r := by
        intro k r
        unfold rd
        cases ev φ x <;> simp [V.strip]
      exact absurd e (this _ _)
    · rename_i e; exact absurd e (hne _)
    · rename_i e
      rw [e] at hR
      obtain ⟨_, _, _, _, _, _, _, _, _, e2⟩ := hR.ms_inv
      exact ⟨_, _, _, e2⟩
    · rename_i e
      rw [e] at hR
      obtain ⟨_, _, _, _, _, _, _, _, _, e2⟩ := hR.mg_ms.ms_inv
      exact ⟨_, _, _, e2⟩
    · cases hr
  | s2b x =>
    simp only [chkOp] at hc
    split at hc <;> try cases hc
    simp only [Bool.and_eq_true] at hc
    simp only [stepA] at hs
    split at hs <;> try cases hs
    exact s2b_ok s hc.2 hc.1.1 hc.1.2 ‹_› ‹_›
  | box x =>
    simp only [chkOp] at hc
    split at hc <;> try cases hc
    simp only [stepA] at hs
    split at hs <;> try cases hs
    rename_i hu
    exact box_ok s hc ‹_› (by intro h; rw [h] at hu; exact hu rfl)
  | alloc zero =>
    simp only [chkOp] at hc
    split at hc <;> try cases hc
    simp only [stepA, Option.some.injEq, Prod.mk.injEq] at hs
    obtain ⟨rfl, rfl, rfl⟩ := hs
    exact alloc_ok s hc ‹_›
  | allocb T e =>
    simp only [chkOp] at hc
    split at hc <;> try cases hc
    simp only [Bool.and_eq_true, beq_iff_eq] at hc
    simp only [stepA, Option.some.injEq, Prod.mk.injEq] at hs
    obtain ⟨rfl, rfl, rfl⟩ := hs
    obtain ⟨rfl, hc⟩ := hc
    exact allocb_ok s hc ‹_›
  | mkm ag kinds =>
    simp only [chkOp] at hc
    split at hc <;> try cases hc
    simp only [stepA, Option.some.injEq, Prod.mk.injEq] at hs
    obtain ⟨rfl, rfl, rfl⟩ := hs
    exact mkm_ok s ‹_›
  | mlk ok zero ag kinds x k =>
    simp only [chkOp] at hc
    split at hc <;> try cases hc
    simp only [Bool.and_eq_true, beq_iff_eq] at hc
    obtain ⟨⟨⟨⟨rfl, c1⟩, c2⟩, c3⟩, c4⟩ := hc
    simp only [stepA] at hs
    split at hs <;> try cases hs
    split at hs <;> try cases hs
    simp only [Option.map_eq_some_iff, Prod.mk.injEq] at hs
    obtain ⟨r, h1, rfl, rfl, rfl⟩ := hs
    exact mlk_ok s c3 c4 ‹_› c1 c2 ‹_› ‹_› h1
  | mst ag kinds x k v =>
    simp only [chkOp] at hc
    split at hc <;> try cases hc
    simp only [Bool.and_eq_true] at hc
    obtain ⟨⟨⟨c1, c2⟩, c3⟩, c4⟩ := hc
    simp only [stepA, Option.map_eq_some_iff, Prod.mk.injEq] at hs
    obtain ⟨K, h1, rfl, rfl, rfl⟩ := hs
    exact mst_ok s c2 c3 c4 ‹_› c1 h1
  | bld zero qs =>
    simp only [chkOp] at hc
    split at hc <;> try cases hc
    simp only [stepA] at hs
    split at hs <;> try cases hs
    split at hs <;> try cases hs
    exact bld_ok s hc ‹_› ‹_› ‹_›
  | bsl k zero n qs m =>
    simp only [chkOp] at hc
    split at hc <;> try cases hc
    rename_i ho
    simp only [Bool.and_eq_true, beq_iff_eq] at hc
    obtain ⟨rfl, hc⟩ := hc
    simp only [stepA] at hs
    split at hs <;> try cases hs
    rename_i us hus
    split at hs <;> try cases hs
    rename_i hh
    obtain ⟨h1, h2, h3, h4⟩ := hh
    split at hs
    · cases hs
      exact bsl_ms_ok s hc ho hus h1 h2 h3 h4
    · split at hs <;> try cases hs
      exact bsl_ok s hc ho hus h1 h2 h3 h4 ‹_›
  | mk k zero bytes l c =>
    simp only [chkOp] at hc
    split at hc <;> try cases hc
    rename_i ho
    simp only [Bool.and_eq_true] at hc
    simp only [stepA] at hs
    split at hs <;> try cases hs
    rename_i e1 e2
    split at hs <;> try cases hs
    rename_i hh
    obtain ⟨h1, h2, h3, h4, h5, h6⟩ := hh
    exact mk_ok s hc.1.1 hc.1.2 hc.2 ho e1 e2 h1 h2 h3 h4 h5 h6
  | ld agg p =>
    simp only [chkOp] at hc
    split at hc <;> try cases hc
    simp only [Bool.and_eq_true] at hc
    simp only [stepA, Option.map_eq_some_iff, Prod.mk.injEq] at hs
    obtain ⟨_, ha, rfl, rfl, rfl⟩ := hs
    exact ld_ok s hc.2 hc.1 ‹_› ha
  | ldo p =>
    simp only [chkOp] at hc
    split at hc <;> try cases hc
    rename_i ho
    simp only [Bool.and_eq_true] at hc
    simp only [stepA] at hs
    split at hs <;> try cases hs
    rename_i e
    split at hs <;> try cases hs
    rename_i hi
    split at hs <;> try cases hs
    · exact ldo_own_ok s hc.2 hc.1 ho e hi ‹_›
    · exact ldo_nils_ok s hc.2 hc.1 ho e hi ‹_›
    · rename_i hne hne' hv
      exact ldo_ok s hc.2 hc.1 ho e hi hv (fun k r h => hne k r h) (fun k h => hne' k h)
  | st n p x =>
    simp only [chkOp] at hc
    split at hc <;> try cases hc
    rename_i ho
    simp only [Bool.and_eq_true] at hc
    simp only [stepA] at hs
    split at hs <;> try cases hs
    rename_i e
    split at hs <;> try cases hs
    rename_i hi
    split at hs <;> try cases hs
    rename_i hh
    obtain ⟨h1, h2, h3, h4⟩ := hh
    exact st_ok s hc.1.2 hc.2 hc.1.1 ho e hi h1 h2 (fun j u hj => LblP.fit_of (underAll_get h3 hj)) h4
  | nck x =>
    simp only [chkOp] at hc
    split at hc <;> try cases hc
    rename_i ho
    simp only [stepA] at hs
    split at hs <;> try cases hs
    · exact nck_ok s hc ho (.inl ⟨_, _, ‹_›⟩) (Eq.symm ‹_›)
    · exact nck_ok s hc ho (.inr (.inl ⟨_, _, ‹_›⟩)) (Eq.symm ‹_›)
    · exact nck_ok s hc ho (.inr (.inr (.inl ⟨_, _, _, ‹_›⟩))) (Eq.symm ‹_›)
    · exact nck_ok s hc ho (.inr (.inr (.inr (.inl ⟨_, ‹_›⟩)))) (Eq.symm ‹_›)
    · exact nck_ok s hc ho (.inr (.inr (.inr (.inr ⟨_, ‹_›⟩)))) (Eq.symm ‹_›)
  | fa off p =>
    simp only [chkOp] at hc
    split at hc <;> try cases hc
    rename_i ho
    simp only [Bool.and_eq_true] at hc
    simp only [stepA] at hs
    split at hs <;> try cases hs
    · exact fa_ok s hc.2 hc.1 ho (.inl ⟨_, _, ‹_›, rfl⟩)
    · exact fa_ok s hc.2 hc.1 ho (.inr (.inl ⟨_, _, ‹_›, rfl⟩))
    · split at hs <;> try cases hs
      exact fa_ok s hc.2 hc.1 ho (.inr (.inr ⟨_, ‹_›, ‹_›, rfl⟩))
  | ixa k n x i =>
    simp only [chkOp] at hc
    split at hc <;> try cases hc
    rename_i ho
    simp only [Bool.and_eq_true] at hc
    simp only [stepA] at hs
    split at hs <;> try cases hs
    · simp only [Option.map_eq_some_iff, Prod.mk.injEq] at hs
      obtain ⟨_, ha, rfl, rfl, rfl⟩ := hs
      exact ixa_arr_ok s hc.1.2 hc.2 hc.1.1 ho ha (.inl ⟨_, _, ‹_›, rfl⟩)
    · simp only [Option.map_eq_some_iff, Prod.mk.injEq] at hs
      obtain ⟨_, ha, rfl, rfl, rfl⟩ := hs
      exact ixa_arr_ok s hc.1.2 hc.2 hc.1.1 ho ha (.inr ⟨_, _, ‹_›, rfl⟩)
    · rename_i e
      split at hs <;> try cases hs
      subst_vars
      split at hs <;> try cases hs
      rename_i hj
      split at hs <;> try cases hs
      exact ixa_sl_ok s hc.1.2 hc.2 hc.1.1 ho e hj ‹_›
    · rename_i e
      simp only [Option.map_eq_some_iff, Prod.mk.injEq] at hs
      obtain ⟨_, ha, rfl, rfl, rfl⟩ := hs
      exact ixa_ms_ok s hc.1.2 hc.2 hc.1.1 ho (e ▸ rd_ok s hc.1.2) ha
    · rename_i e
      split at hs <;> try cases hs
      subst_vars
      simp only [Option.map_eq_some_iff, Prod.mk.injEq] at hs
      obtain ⟨_, ha, rfl, rfl, rfl⟩ := hs
      exact ixa_ms_ok s hc.1.2 hc.2 hc.1.1 ho (R.mg_ms (e ▸ rd_ok s hc.1.2)) ha
    · rename_i e
      split at hs <;> try cases hs
      subst_vars
      split at hs <;> try cases hs
      rename_i hj
      have key := ixa_mix_ok s hc.1.2 hc.2 hc.1.1 ho e hj
      split at hs <;> cases hs
      · rename_i hr; rwa [hr] at key
      · rename_i hr; rwa [hr] at key
  | fld agg off x =>
    simp only [chkOp] at hc
    split at hc <;> try cases hc
    rename_i ho
    simp only [Bool.and_eq_true] at hc
    simp only [stepA] at hs
    split at hs <;> try cases hs
    simp only [Option.map_eq_some_iff, Prod.mk.injEq] at hs
    obtain ⟨_, ha, rfl, rfl, rfl⟩ := hs
    exact fld_ok s hc.2 hc.1 ho ‹_› ha
  | ixs x i =>
    simp only [chkOp] at hc
    split at hc <;> try cases hc
    rename_i ho
    simp only [Bool.and_eq_true] at hc
    simp only [stepA] at hs
    split at hs <;> try cases hs
    rename_i e
    split at hs <;> try cases hs
    rename_i hj
    split at hs <;> try cases hs
    exact ixs_ok s hc.1.2 hc.2 hc.1.1 ho e hj ‹_›
  | ixv agg k n x i =>
    simp only [chkOp] at hc
    split at hc <;> try cases hc
    rename_i ho
    simp only [Bool.and_eq_true] at hc
    obtain ⟨⟨h1, h2⟩, h3⟩ := hc
    split at h1 <;> try cases h1
    rename_i m e ht
    simp only [Bool.and_eq_true, beq_iff_eq] at h1
    obtain ⟨⟨rfl, h4⟩, h5⟩ := h1
    simp only [stepA] at hs
    split at hs <;> try cases hs
    rename_i ex
    split at hs <;> try cases hs
    rename_i hj
    simp only [Option.map_eq_some_iff, Prod.mk.injEq] at hs
    obtain ⟨_, ha, rfl, rfl, rfl⟩ := hs
    exact ixv_ok s h2 h3 ht h4 h5 ho ex hj ha
  | slc x lo hi =>
    simp only [chkOp] at hc
    split at hc <;> try cases hc
    rename_i ho
    simp only [Bool.and_eq_true] at hc
    simp only [stepA] at hs
    split at hs <;> try cases hs
    rename_i e
    split at hs <;> try cases hs
    rename_i hh
    split at hs <;> try cases hs
    exact slc_ok s hc.1.1.2 hc.1.2 hc.2 hc.1.1.1 ho e hh ‹_›
  | sls k x lo hi mx =>
    simp only [chkOp] at hc
    split at hc <;> try cases hc
    rename_i ho
    simp only [Bool.and_eq_true, Bool.or_eq_true, Bool.not_eq_true'] at hc
    obtain ⟨⟨⟨⟨⟨h1, h2⟩, h3⟩, h4⟩, h5⟩, h6⟩ := hc
    have h7 : mx.isSome = true → hi.isSome = true := fun h => by
      rcases h6 with h6 | h6
      · rw [h] at h6; cases h6
      · exact h6
    simp only [stepA] at hs
    split at hs <;> try cases hs
    · rename_i e
      split at hs <;> try cases hs
      subst_vars
      split at hs <;> try cases hs
      rename_i hm
      split at hs <;> try cases hs
      rename_i hh
      split at hs <;> try cases hs
      rename_i hl
      have key := sls_ok s h2 h3 h4 h5 h7 h1 ho e hm hh hl
      split at hs <;> cases hs
      · rwa [if_pos ‹_›] at key
      · rwa [if_neg ‹_›] at key
    · rename_i e
      split at hs <;> try cases hs
      rename_i hm
      split at hs <;> try cases hs
      rename_i hh
      split at hs <;> try cases hs
      rename_i hl
      have key := sls_ms_ok s h2 h3 h4 h5 h7 h1 ho e hm hh hl
      split at hs <;> cases hs
      · rwa [if_pos ‹_›] at key
      · rwa [if_neg ‹_›] at key
    · rename_i e
      split at hs <;> try cases hs
      subst_vars
      split at hs <;> try cases hs
      rename_i hm
      split at hs <;> try cases hs
      rename_i hh
      split at hs <;> try cases hs
      rename_i hl
      exact sls_mg_ok s h2 h3 h4 h5 h7 h1 ho e hm hh hl
  | slp k n x lo hi mx =>
    simp only [chkOp] at hc
    split at hc <;> try cases hc
    rename_i ho
    simp only [Bool.and_eq_true, Bool.or_eq_true, Bool.not_eq_true'] at hc
    obtain ⟨⟨⟨⟨⟨h1, h2⟩, h3⟩, h4⟩, h5⟩, h6⟩ := hc
    have h7 : mx.isSome = true → hi.isSome = true := fun h => by
      rcases h6 with h6 | h6
      · rw [h] at h6; cases h6
      · exact h6
    simp only [stepA] at hs
    split at hs <;> try cases hs
    · rename_i e
      split at hs <;> try cases hs
      rename_i hm
      split at hs <;> try cases hs
      rename_i hh
      split at hs <;> try cases hs
      rename_i hl
      have key := slp_ok s h2 h3 h4 h5 h7 h1 ho e hm hh hl
      split at hs <;> cases hs
      · rwa [if_pos ‹_›] at key
      · rwa [if_neg ‹_›] at key
    · rename_i e
      split at hs <;> try cases hs
      rename_i hm
      split at hs <;> try cases hs
      rename_i hh
      split at hs <;> try cases hs
      rename_i hl
      split at hs <;> try cases hs
      have key := slp_rp_ok s h2 h3 h4 h5 h7 h1 ho e hm hh hl ‹_›
      split at hs <;> cases hs
      · rwa [if_pos ‹_›] at key
      · rwa [if_neg ‹_›] at key
  | ext x i =>
    simp only [chkOp] at hc
    split at hc <;> try cases hc
    rename_i ho
    simp only [Bool.and_eq_true, beq_iff_eq] at hc
    obtain ⟨rfl, hc⟩ := hc
    simp only [stepA] at hs
    split at hs <;> try cases hs
    rename_i e
    simp only [Option.map_eq_some_iff, Prod.mk.injEq] at hs
    obtain ⟨_, ha, rfl, rfl, rfl⟩ := hs
    exact ext_ok s hc ho e ha
  | len str x =>
    simp only [chkOp] at hc
    split at hc <;> try cases hc
    rename_i args ts ho
    split at hc <;> try cases hc
    rename_i X t hX ht
    simp only [Bool.and_eq_true, beq_iff_eq] at hc
    obtain ⟨⟨h1, h2⟩, h3⟩ := hc
    obtain rfl := arr_one hX
    simp only [stepA] at hs
    split at hs <;> try cases hs
    · rename_i l e
      split at hs <;> cases hs
      rename_i hb
      exact len_ok s h1 ht ho (.inl ⟨_, e, rfl, h3.trans hb⟩)
    · rename_i k r e
      split at hs <;> cases hs
      rename_i hb
      exact len_ok s h1 ht ho (.inr (.inl ⟨_, _, e, rfl, h2, h3.trans (by simpa using hb)⟩))
    · rename_i i f c e
      split at hs <;> cases hs
      rename_i hb
      exact len_ok s h1 ht ho (.inr (.inr ⟨_, _, _, e ▸ rd_ok s h1, h2, h3.trans (by simpa using hb)⟩))
    · rename_i k i f n c e
      split at hs <;> cases hs
      rename_i hb
      exact len_ok s h1 ht ho (.inr (.inr ⟨_, _, _, R.mg_ms (e ▸ rd_ok s h1), h2, h3.trans (by simpa using hb)⟩))
  | lena n =>
    simp only [chkOp] at hc
    split at hc <;> try cases hc
    rename_i args ts ho
    split at hc <;> try cases hc
    rename_i X t hX ht
    obtain rfl := arr_one hX
    simp only [stepA, Option.some.injEq, Prod.mk.injEq] at hs
    obtain ⟨rfl, rfl, rfl⟩ := hs
    exact lena_ok s ht hc ho
  | app k bytes sx x m =>
    simp only [chkOp] at hc
    split at hc <;> try cases hc
    rename_i args ts ho
    split at hc <;> try cases hc
    rename_i S X hX
    simp only [Bool.and_eq_true] at hc
    obtain ⟨⟨h1, h2⟩, h3⟩ := hc
    obtain rfl := arr_two hX
    simp only [stepA] at hs
    split at hs <;> try cases hs
    rename_i k' rows φ1 ht
    split at hs <;> try cases hs
    rename_i hk
    subst hk
    split at hs <;> try cases hs
    rename_i new hn
    split at hs <;> try cases hs
    rename_i hh
    split at hs
    · split at hs <;> try cases hs
      rename_i hemp
      have hemp2 : rows = [] := by simpa using hemp
      subst hemp2
      split at hs
      · rename_i hne
        have hne2 : new = [] := by simpa using hne
        subst hne2
        cases hs
        exact app_ok s h1 h2 h3 ho ht hn hh.1 hh.2.1 hh.2.2
      · rename_i hne
        cases hs
        exact app_ms_ok s h1 h2 h3 ho ht hn hh.1 hh.2.1 hh.2.2 (by simpa using hne)
    · cases hs
      exact app_ok s h1 h2 h3 ho ht hn hh.1 hh.2.1 hh.2.2
  | apz k bytes sx x =>
    simp only [chkOp] at hc
    split at hc <;> try cases hc
    rename_i args ts ho
    split at hc <;> try cases hc
    rename_i S X hX
    simp only [Bool.and_eq_true] at hc
    obtain ⟨⟨h1, h2⟩, h3⟩ := hc
    obtain rfl := arr_two hX
    simp only [stepA] at hs
    split at hs <;> try cases hs
    rename_i k' rows φ1 ht
    split at hs <;> try cases hs
    rename_i hk
    subst hk
    split at hs <;> try cases hs
    rename_i new hn
    split at hs <;> try cases hs
    rename_i hh
    exact apz_ok s h1 h2 h3 ho ht hn hh.1 hh.2.1 hh.2.2.1 hh.2.2.2
  | tkf x =>
    simp only [stepA, Option.map_eq_some_iff, Prod.mk.injEq] at hs
    obtain ⟨⟨u, K⟩, ha, rfl, rfl, rfl⟩ := hs
    simp only [chkOp] at hc
    split at hc
    · exact tkf_ok s hc (.inl ‹_›) ha
    · exact tkf_ok s hc (.inr ‹_›) ha
    · cases hc
  | stf p x =>
    simp only [chkOp] at hc
    split at hc <;> try cases hc
    rename_i ho
    simp only [Bool.and_eq_true] at hc
    simp only [stepA] at hs
    split at hs <;> try cases hs
    rename_i e
    split at hs <;> try cases hs
    rename_i hf
    split at hs <;> try cases hs
    rename_i hi
    split at hs <;> try cases hs
    exact stf_ok s hc.1.2 hc.2 hc.1.1 ho e hf hi ‹_›
  | callc f xs =>
    simp only [chkOp] at hc
    split at hc <;> try cases hc
    rename_i g args ts ho
    simp only [Bool.and_eq_true, beq_iff_eq] at hc
    obtain ⟨⟨rfl, hy⟩, hc⟩ := hc
    simp only [stepA, Option.map_eq_some_iff, Prod.mk.injEq] at hs
    obtain ⟨r, ha, rfl, rfl, rfl⟩ := hs
    exact callc_ok hcall s (by simpa [Nat.blt_eq] using hy) hc ho ha
  | callvc fx xs =>
    simp only [chkOp] at hc
    split at hc <;> try cases hc
    rename_i F args ts ho
    simp only [Bool.and_eq_true] at hc
    simp only [stepA] at hs
    split at hs <;> try cases hs
    rename_i f first cap hf
    simp only [Option.map_eq_some_iff, Prod.mk.injEq] at hs
    obtain ⟨r, ha, rfl, rfl, rfl⟩ := hs
    exact callvc_ok hcall s hc.1 hc.2 ho hf ha
  | mx isMax xs =>
    simp only [chkOp] at hc
    split at hc <;> try cases hc
    rename_i b args ts ho
    simp only [Bool.and_eq_true, beq_iff_eq] at hc
    obtain ⟨rfl, hc⟩ := hc
    split at hc <;> try cases hc
    rename_i X Y x y hX
    simp only [Bool.and_eq_true] at hc
    obtain rfl := arr_two hX
    simp only [stepA] at hs
    split at hs <;> try cases hs
    rename_i e
    simp only [List.map_cons, List.map_nil, List.cons.injEq, and_true] at e
    exact mx_ok s hc.1 hc.2 ho e.1 e.2
  | call f xs =>
    simp only [chkOp] at hc
    split at hc <;> try cases hc
    rename_i g args ts ho
    simp only [Bool.and_eq_true, beq_iff_eq] at hc
    obtain ⟨⟨rfl, hy⟩, hc⟩ := hc
    simp only [stepA, Option.map_eq_some_iff, Prod.mk.injEq, Prod.exists] at hs
    obtain ⟨r, H1, ha, rfl, rfl, rfl⟩ := hs
    exact call_ok hcall s (by simpa [Nat.blt_eq] using hy) hc ho ha
  | mkz k zero bytes l c =>
    simp only [chkOp] at hc
    split at hc <;> try cases hc
    rename_i ho
    simp only [Bool.and_eq_true] at hc
    simp only [stepA] at hs
    split at hs <;> try cases hs
    rename_i e1 e2
    split at hs <;> try cases hs
    rename_i hh
    obtain ⟨g1, g2, g3, g4, g5, g6, g7⟩ := hh
    exact mkz_ok s hc.1.1 hc.1.2 hc.2 ho e1 e2 g1 g2 g3 g4 g5 g6 g7
  | callx f xs =>
    simp only [chkOp] at hc
    split at hc <;> try cases hc
    rename_i g args ts ho
    simp only [Bool.and_eq_true, beq_iff_eq] at hc
    obtain ⟨hy, hc⟩ := hc
    simp only [stepA, callOwn, Option.map_map, Option.map_eq_some_iff, Function.comp, Prod.mk.injEq, Prod.exists] at hs
    obtain ⟨r, H1, ha, rfl, rfl, rfl⟩ := hs
    simp only [Bool.or_eq_true, Bool.and_eq_true, beq_iff_eq] at hy
    rcases hy with ⟨rfl, hy⟩ | rfl
    · exact callx_ok hcall s (by simpa [Nat.blt_eq] using hy) hc ho ha
    · have hE : E.lim = none := by
        rcases hW with hW | hW
        · have := s.wd; rw [hW] at this; exact Option.isNone_iff_eq_none.1 this.symm
        · exfalso
          have h1 : Nat.blt (wNo g) yBase = false := by
            cases hb : Nat.blt (wNo g) yBase with
            | false => rfl
            | true => rw [Nat.blt_eq] at hb; unfold wNo at hb; omega
          simp only [AOp.wide, h1] at hW
          cases hW
      exact callxw_ok hcall hE s hc ho ha
  | ldoq p r =>
    simp only [chkOp] at hc
    split at hc <;> try cases hc
    rename_i ho
    simp only [Bool.and_eq_true] at hc
    simp only [stepA] at hs
    split at hs <;> try cases hs
    rename_i i off j off' e e2
    split at hs <;> try cases hs
    split at hs <;> try cases hs
    rename_i hi
    split at hs <;> try cases hs
    · exact ldo_own_ok s hc.2 hc.1 ho e hi ‹_›
    · exact ldo_nils_ok s hc.2 hc.1 ho e hi ‹_›
    · rename_i hne hne' hv
      exact ldo_ok s hc.2 hc.1 ho e hi hv (fun k r h => hne k r h) (fun k h => hne' k h)
  | callh f xs r =>
    simp only [chkOp] at hc
    split at hc <;> try cases hc
    rename_i g args ts ho
    simp only [Bool.and_eq_true, beq_iff_eq] at hc
    obtain ⟨⟨⟨rfl, hy⟩, hc⟩, hr⟩ := hc
    obtain ⟨n, rfl⟩ : ∃ n, r = .t n := by
      cases r with
      | t n => exact ⟨n, rfl⟩
      | c v => cases hr
    simp only [stepA] at hs
    split at hs <;> try cases hs
    rename_i i off e
    split at hs <;> try cases hs
    rename_i cs hi
    split at hs <;> try cases hs
    rename_i u K ha
    split at hs <;> try cases hs
    rename_i hK
    exact callh_ok hcall s (by simpa [Nat.blt_eq] using hy) hc ho e hi ha hK
  | callvh fx xs r =>
    simp only [chkOp] at hc
    split at hc <;> try cases hc
    rename_i F args ts ho
    simp only [Bool.and_eq_true] at hc
    obtain ⟨⟨hF, hc⟩, hr⟩ := hc
    obtain ⟨n, rfl⟩ : ∃ n, r = .t n := by
      cases r with
      | t n => exact ⟨n, rfl⟩
      | c v => cases hr
    simp only [stepA] at hs
    split at hs <;> try cases hs
    rename_i f first cap i off hf e
    split at hs <;> try cases hs
    rename_i cs hi
    split at hs <;> try cases hs
    rename_i u K ha
    split at hs <;> try cases hs
    rename_i hK
    exact callvh_ok hcall s hF hc ho hf e hi ha hK
  | ldq agg p r =>
    simp only [chkOp] at hc
    split at hc <;> try cases hc
    rename_i ho
    simp only [Bool.and_eq_true] at hc
    simp only [stepA] at hs
    split at hs <;> try cases hs
    rename_i i off j off' e1 e2
    split at hs <;> try cases hs
    simp only [Option.map_eq_some_iff, Prod.mk.injEq] at hs
    obtain ⟨u, hl, rfl, rfl, rfl⟩ := hs
    exact ld_ok s hc.2 hc.1 ho (by rw [e1]; exact hl)
  | stq n p x rs =>
    simp only [chkOp] at hc
    split at hc <;> try cases hc
    rename_i ho
    simp only [Bool.and_eq_true] at hc
    simp only [stepA] at hs
    split at hs <;> try cases hs
    split at hs <;> try cases hs
    simp only [storeOf] at hs
    split at hs <;> try cases hs
    rename_i e
    split at hs <;> try cases hs
    rename_i hi
    split at hs <;> try cases hs
    rename_i hh
    exact st_ok s hc.1.2 hc.2 hc.1.1 ho e hi hh.1 (by omega) (fun j u hj => LblP.fit_of (underAll_get hh.2.2.1 hj)) hh.2.2.2
  | cpy k d sx =>
    simp only [chkOp] at hc
    split at hc <;> try cases hc
    rename_i args ts ho
    split at hc <;> try cases hc
    rename_i D S hX
    simp only [Bool.and_eq_true] at hc
    obtain rfl := arr_two hX
    simp only [stepA] at hs
    split at hs <;> try cases hs
    · rename_i i off len cap e
      split at hs <;> try cases hs
      rename_i new cs hn hi
      split at hs <;> try cases hs
      rename_i hh
      exact cpy_ok s hc.1.1 hc.1.2 hc.2 ho e hn hi hh.1 hh.2
    · rename_i k' e
      split at hs <;> try cases hs
      rename_i new hn
      exact cpy_nil_ok s hc.1.1 hc.1.2 hc.2 ho e hn
  | clr k zero d =>
    simp only [chkOp] at hc
    split at hc <;> try cases hc
    rename_i args ts ho
    split at hc <;> try cases hc
    rename_i D hX
    simp only [Bool.and_eq_true] at hc
    obtain rfl := arr_one hX
    simp only [stepA] at hs
    split at hs <;> try cases hs
    · rename_i i off len cap e
      split at hs <;> try cases hs
      rename_i cs hi
      split at hs <;> try cases hs
      rename_i hh
      obtain ⟨h1, rfl, h3⟩ := hh
      exact clr_ok s hc.1 hc.2 ho (e ▸ rd_ok s hc.1) hi h1 h3
    · rename_i k' i off len cap e
      split at hs <;> try cases hs
      rename_i cs hi
      split at hs <;> try cases hs
      rename_i hh
      obtain ⟨rfl, h1, rfl, h3⟩ := hh
      exact clr_ok s hc.1 hc.2 ho (R.mg_ms (e ▸ rd_ok s hc.1)) hi h1 h3
    · rename_i k' e
      exact clr_nil_ok s hc.1 hc.2 ho e
  | callv fx xs =>
    simp only [chkOp] at hc
    split at hc <;> try cases hc
    rename_i F args ts ho
    simp only [Bool.and_eq_true] at hc
    simp only [stepA] at hs
    split at hs <;> try cases hs
    rename_i f first cap hf
    simp only [Option.map_eq_some_iff, Prod.mk.injEq, Prod.exists] at hs
    obtain ⟨r, H1, ha, rfl, rfl, rfl⟩ := hs
    exact callv_ok hcall s hc.1 hc.2 ho hf ha
  | stw n p x =>
    have hE : E.lim = none := by
      rcases hW with hW | hW
      · have := s.wd; rw [hW] at this; exact Option.isNone_iff_eq_none.1 this.symm
      · cases hW
    simp only [chkOp] at hc
    split at hc <;> try cases hc
    rename_i ho
    simp only [Bool.and_eq_true] at hc
    simp only [stepA] at hs
    split at hs <;> try cases hs
    rename_i e
    split at hs <;> try cases hs
    rename_i hi
    split at hs <;> try cases hs
    rename_i hh
    obtain ⟨h1, h2, h4⟩ := hh
    exact st_ok s hc.1.2 hc.2 hc.1.1 ho e hi h1 h2 (fun j u hj => LblP.fit_none hE _ _) h4
  | apm k bytes sx x =>
    have hE : E.lim = none := by
      rcases hW with hW | hW
      · have := s.wd; rw [hW] at this; exact Option.isNone_iff_eq_none.1 this.symm
      · cases hW
    simp only [chkOp] at hc
    split at hc <;> try cases hc
    rename_i args ts ho
    split at hc <;> try cases hc
    rename_i S X hX
    simp only [Bool.and_eq_true] at hc
    obtain ⟨⟨h1, h2⟩, h3⟩ := hc
    obtain rfl := arr_two hX
    simp only [stepA] at hs
    split at hs <;> try cases hs
    rename_i new hn
    simp only [Option.map_eq_some_iff, Prod.mk.injEq] at hs
    obtain ⟨r, ha, rfl, rfl, rfl⟩ := hs
    exact apm_ok hE s h1 h2 h3 ho hn ha
  | ldf agg p =>
    simp only [chkOp] at hc
    split at hc <;> try cases hc
    rename_i ho
    simp only [Bool.and_eq_true] at hc
    simp only [stepA] at hs
    split at hs <;> try cases hs
    rename_i e
    split at hs <;> try cases hs
    rename_i hi
    split at hs <;> try cases hs
    rename_i hle
    split at hs <;> try cases hs
    rename_i hz
    split at hs <;> try cases hs
    rename_i hK
    simp only [Option.map_eq_some_iff, Prod.mk.injEq] at hs
    obtain ⟨u, hv, rfl, rfl, rfl⟩ := hs
    exact ldf_ok s hc.2 hc.1 ho e hi hle hz hK hv
  | tkz x =>
    simp only [stepA, Option.map_eq_some_iff, Prod.mk.injEq] at hs
    obtain ⟨⟨u, K⟩, ha, rfl, rfl, rfl⟩ := hs
    simp only [chkOp] at hc
    split at hc
    · exact tkz_ok s hc (.inl ‹_›) ha
    · exact tkz_ok s hc (.inr ‹_›) ha
    · cases hc
  | callk f xs =>
    have hE : E.lim = none := by
      rcases hW with hW | hW
      · have := s.wd; rw [hW] at this; exact Option.isNone_iff_eq_none.1 this.symm
      · cases hW
    simp only [chkOp] at hc
    split at hc <;> try cases hc
    rename_i g args ts ho
    simp only [Bool.and_eq_true, beq_iff_eq] at hc
    obtain ⟨rfl, hc⟩ := hc
    simp only [stepA, Option.map_eq_some_iff, Prod.mk.injEq, Prod.exists] at hs
    obtain ⟨r, H1, ha, rfl, rfl, rfl⟩ := hs
    exact callk_ok hcall hE s hc ho ha
  | callck f xs =>
    simp only [chkOp] at hc
    split at hc <;> try cases hc
    rename_i g args ts ho
    simp only [Bool.and_eq_true, beq_iff_eq] at hc
    obtain ⟨rfl, hc⟩ := hc
    simp only [stepA, Option.map_eq_some_iff, Prod.mk.injEq] at hs
    obtain ⟨r, ha, rfl, rfl, rfl⟩ := hs
    exact callck_ok hcall s hc ho ha
  | callvk fx xs =>
    have hE : E.lim = none := by
      rcases hW with hW | hW
      · have := s.wd; rw [hW] at this; exact Option.isNone_iff_eq_none.1 this.symm
      · cases hW
    simp only [chkOp] at hc
    split at hc <;> try cases hc
    rename_i F args ts ho
    simp only [Bool.and_eq_true] at hc
    simp only [stepA] at hs
    split at hs <;> try cases hs
    rename_i f first cap hf
    simp only [Option.map_eq_some_iff, Prod.mk.injEq, Prod.exists] at hs
    obtain ⟨r, H1, ha, rfl, rfl, rfl⟩ := hs
    exact callvk_ok hcall hE s hc.1 hc.2 ho hf ha
  | ldm p =>
    simp only [chkOp] at hc
    split at hc <;> try cases hc
    rename_i ho
    simp only [Bool.and_eq_true] at hc
    simp only [stepA] at hs
    split at hs <;> try cases hs
    rename_i e
    split at hs <;> try cases hs
    rename_i hi
    split at hs <;> try cases hs
    · exact ldm_ok s hc.2 hc.1 ho e hi ‹_› (by intro k r h; cases h)
    · exact ldm_ok s hc.2 hc.1 ho e hi ‹_› (by intro k r h; cases h)
  | mne ag kinds zero x k =>
    simp only [chkOp] at hc
    split at hc <;> try cases hc
    simp only [Bool.and_eq_true] at hc
    obtain ⟨⟨⟨c1, c2⟩, c3⟩, c4⟩ := hc
    simp only [stepA, Option.map_eq_some_iff, Prod.mk.injEq] at hs
    obtain ⟨r, h1, rfl, rfl, rfl⟩ := hs
    exact mne_ok s c3 c4 ‹_› c1 c2 h1
  | mes x st v =>
    simp only [chkOp] at hc
    split at hc <;> try cases hc
    simp only [Bool.and_eq_true] at hc
    simp only [stepA, Option.map_eq_some_iff, Prod.mk.injEq] at hs
    obtain ⟨K, h1, rfl, rfl, rfl⟩ := hs
    exact mes_ok s hc.1.1 hc.1.2 hc.2 ‹_› h1
  | callb f xs =>
    simp only [chkOp] at hc
    split at hc <;> try cases hc
    rename_i g args ts ho
    simp only [Bool.and_eq_true, beq_iff_eq] at hc
    obtain ⟨⟨rfl, hy⟩, hc⟩ := hc
    simp only [stepA] at hs
    split at hs <;> try cases hs
    rename_i hz
    split at hs <;> try cases hs
    rename_i ha
    split at hs <;> try cases hs
    rename_i hsc
    exact callb_ok hcall s (by simpa [Nat.blt_eq] using hy) hc ho hz ha hsc
  | callr f xs =>
    simp only [chkOp] at hc
    split at hc <;> try cases hc
    rename_i g args ts ho
    simp only [Bool.and_eq_true, beq_iff_eq] at hc
    obtain ⟨⟨rfl, hy⟩, hc⟩ := hc
    simp only [stepA, Option.map_eq_some_iff, Prod.mk.injEq] at hs
    obtain ⟨r, ha, rfl, rfl, rfl⟩ := hs
    exact call_ok hcall s (by simpa [Nat.blt_eq] using hy) hc ho (callSame_inv ha)
  | mkf f l m =>
    simp only [chkOp] at hc
    split at hc <;> try cases hc
    rename_i g Xs Ys ho
    simp only [Bool.and_eq_true, beq_iff_eq] at hc
    obtain ⟨⟨rfl, h1⟩, h2⟩ := hc
    simp only [stepA, Option.some.injEq, Prod.mk.injEq] at hs
    obtain ⟨rfl, rfl, rfl⟩ := hs
    exact mkf_ok s h1 h2 ho
  | _ => cases hc

end
end Go.AM
