/-
  The operations that touch no memory: numbers, bools, strings.
-/
import Derived.Test.YtbgblfbbeamleaaGreatDoorOp
set_option linter.unusedVariables false
set_option linter.unusedSimpArgs false
namespace Go.AM

theorem beq_dec {α : Type} [DecidableEq α] [BEq α] [LawfulBEq α] (x y : α) : (x == y) = decide (x = y) := by
  rw [Bool.eq_iff_iff]; simp

section
variable {P : Program} {E : LblP} {nt : Cx} {φ : Fr} {H : Heap} {ρ : Own} {ι : Places} {a : Act} {w : World} {o : Oper}

theorem mv_ok (s : StA E nt φ H ρ ι a w [] []) {X : Operand} {x : AX} (hx : chkX X x = true) (ho : o.op = .move X ∨ o.op = .assign X) : Runs P o a w (After E nt φ H (rd φ x) ρ ι a w) :=
  .value (a.eval X) (by rcases ho with h | h <;> simp [execOp, h]) (.same s (rd_ok s hx))

theorem mvconv_ok (s : StA E nt φ H ρ ι a w [] []) {X : Operand} {x : AX} (hx : chkX X x = true) {src dst : TypeId} (ho : o.op = .convert src dst X) (h1 : isString P src = true) (h2 : isString P dst = true)
    {t : List UInt8} (hr : rd φ x = .str t) : Runs P o a w (After E nt φ H (rd φ x) ρ ι a w) := by
  have hX := rd_ok s hx
  have e := (hr ▸ hX).str_inv
  unfold isString at h1 h2
  split at h1 <;> simp at h1
  split at h2 <;> simp at h2
  rename_i e1 _ e2
  exact .value (a.eval X) (by simp [execOp, ho, convert, underlying, e1, e2, e]) (.same s hX)

theorem tk_ok (s : StA E nt φ H ρ ι a w [] []) {X : Operand} {x : AX} (hx : chkX X x = true) (ho : o.op = .move X ∨ o.op = .assign X) : Runs P o a w (After E nt (takeX φ x).2 H (takeX φ x).1 ρ ι a w) := by
  obtain ⟨ρ1, s1, g⟩ := take_ok s hx
  exact .value (a.eval X) (by rcases ho with h | h <;> simp [execOp, h]) ⟨ρ1, ι, by simpa using s1, g⟩

theorem pick_ok (s : StA E nt φ H ρ ι a w [] []) {C A B : Operand} {c x y : AX} (hc : chkX C c = true) (hx : chkX A x = true) (hy : chkX B y = true) (ho : o.op = .pick C A B) {b : Bool} (hr : rd φ c = .bool b) :
    Runs P o a w (After E nt φ H (if b then rd φ x else rd φ y) ρ ι a w) := by
  have hC := (hr ▸ rd_ok s hc).bool_inv
  refine .value (if b then a.eval A else a.eval B) (by simp [execOp, ho, hC, asBool]) (.same s ?_)
  cases b
  · exact rd_ok s hy
  · exact rd_ok s hx

theorem int_same {k : IntKind} {n : Int} {F : Nat → Nat → Prop} : R w F ι (.int k n) (.int k n) := .pr (.int k n)
theorem bool_same {b : Bool} {F : Nat → Nat → Prop} : R w F ι (.bool b) (.bool b) := .pr (.bool b)

theorem arith_run (op : BinOp) (k k2 : IntKind) (m n : Int) (t : TypeId) (X Y : Operand) (v : V) (hk : k2 = k ∨ op = .shl ∨ op = .shr) (h : arith op k m n = some v) :
    ∃ r, v = .int k r ∧ (do eqGuard op t X Y (.int k m) (.int k2 n); binOp op t (.int k m) (.int k2 n) : Sem Value).run P w = .ok (.int k r) w := by
  cases op <;> simp only [arith, reduceCtorEq, Option.some.injEq] at h <;>
    (first
      | (rcases hk with rfl | hk | hk <;> first | (cases hk) | skip)
      | skip) <;>
    (first
      | (subst h; refine ⟨_, rfl, ?_⟩; simp [eqGuard, binOp, Op.intArith, Op.intBits]; done)
      | (split at h <;> simp only [Option.some.injEq, reduceCtorEq] at h; subst h; refine ⟨_, rfl, ?_⟩; first | (simp_all [eqGuard, binOp, Op.intDiv, Op.shift]; done) | (simp_all [eqGuard, binOp, Op.intDiv, Op.shift]; intro hh; omega)))

theorem ia_ok (s : StA E nt φ H ρ ι a w [] []) {X Y : Operand} {x y : AX} (hx : chkX X x = true) (hy : chkX Y y = true) {op : BinOp} {t u : TypeId} (ho : o.op = .binOp op t X Y u) {k k2 : IntKind} {m n : Int} {v : V}
    (h1 : rd φ x = .int k m) (h2 : rd φ y = .int k2 n) (hk : k2 = k ∨ op = .shl ∨ op = .shr) (h : arith op k m n = some v) : Runs P o a w (After E nt φ H v ρ ι a w) := by
  have e1 := (h1 ▸ rd_ok s hx).int_inv
  have e2 := (h2 ▸ rd_ok s hy).int_inv
  obtain ⟨r, rfl, hr⟩ := arith_run (P := P) (w := w) op k k2 m n t X Y v hk h
  refine .value (.int k r) ?_ (.same s int_same)
  simp only [execOp, ho, e1, e2, Sem.run_bind, Sem.run_pure] at hr ⊢
  rw [hr]
  rfl

theorem compare_run (op : BinOp) (k : IntKind) (m n : Int) (t : TypeId) (X Y : Operand) (v : V) (h : compare op m n = some v) :
    ∃ b, v = .bool b ∧ (do eqGuard op t X Y (.int k m) (.int k n); binOp op t (.int k m) (.int k n) : Sem Value).run P w = .ok (.bool b) w := by
  cases op <;> simp only [compare, reduceCtorEq, Option.some.injEq] at h <;> subst h <;> refine ⟨_, rfl, ?_⟩ <;>
    simp [eqGuard, binOp, Op.intCmp, beq_dec, bne, GT.gt, GE.ge]

theorem ic_ok (s : StA E nt φ H ρ ι a w [] []) {X Y : Operand} {x y : AX} (hx : chkX X x = true) (hy : chkX Y y = true) {op : BinOp} {t u : TypeId} (ho : o.op = .binOp op t X Y u) {k : IntKind} {m n : Int} {v : V}
    (h1 : rd φ x = .int k m) (h2 : rd φ y = .int k n) (h : compare op m n = some v) : Runs P o a w (After E nt φ H v ρ ι a w) := by
  have e1 := (h1 ▸ rd_ok s hx).int_inv
  have e2 := (h2 ▸ rd_ok s hy).int_inv
  obtain ⟨b, rfl, hr⟩ := compare_run (P := P) (w := w) op k m n t X Y v h
  refine .value (.bool b) ?_ (.same s bool_same)
  simp only [execOp, ho, e1, e2, Sem.run_bind, Sem.run_pure] at hr ⊢
  rw [hr]
  rfl

theorem bytes_append (x y : List UInt8) : (ByteArray.mk x.toArray) ++ (ByteArray.mk y.toArray) = ByteArray.mk (x ++ y).toArray := by
  apply ByteArray.ext
  simp

theorem str_run (op : BinOp) (m n : List UInt8) (t : TypeId) (X Y : Operand) (v : V) (h : strOp op m n = some v) :
    ∃ y, R w (foot ρ) ι v y ∧ (do eqGuard op t X Y (.string ⟨m.toArray⟩) (.string ⟨n.toArray⟩); binOp op t (.string ⟨m.toArray⟩) (.string ⟨n.toArray⟩) : Sem Value).run P w = .ok y w := by
  cases op <;> simp only [strOp, reduceCtorEq, Option.some.injEq] at h
  case add =>
    split at h <;> simp only [Option.some.injEq, reduceCtorEq] at h
    rename_i hl
    subst h
    refine ⟨_, .pr (.str _), ?_⟩
    have h2 : ¬ (((ByteArray.mk m.toArray).size + (ByteArray.mk n.toArray).size : Nat) : Int) > IntKind.i64.max := by
      simp only [ByteArray.size, List.size_toArray]
      have : IntKind.i64.max = 9223372036854775807 := by decide
      rw [this]; omega
    simp only [eqGuard, binOp, Op.stringOp]
    rw [if_neg h2, bytes_append]
    simp
  all_goals (subst h; refine ⟨_, .pr (.bool _), ?_⟩; simp [eqGuard, binOp, Op.stringOp, beq_dec])

theorem sop_ok (s : StA E nt φ H ρ ι a w [] []) {X Y : Operand} {x y : AX} (hx : chkX X x = true) (hy : chkX Y y = true) {op : BinOp} {t u : TypeId} (ho : o.op = .binOp op t X Y u) {m n : List UInt8} {v : V}
    (h1 : rd φ x = .str m) (h2 : rd φ y = .str n) (h : strOp op m n = some v) : Runs P o a w (After E nt φ H v ρ ι a w) := by
  have e1 := (h1 ▸ rd_ok s hx).str_inv
  have e2 := (h2 ▸ rd_ok s hy).str_inv
  obtain ⟨z, hz, hr⟩ := str_run (P := P) (w := w) (ρ := ρ) (ι := ι) op m n t X Y v h
  refine .value z ?_ (.same s hz)
  simp only [execOp, ho, e1, e2, Sem.run_bind, Sem.run_pure] at hr ⊢
  rw [hr]
  rfl

theorem eqb_ok (s : StA E nt φ H ρ ι a w [] []) {X Y : Operand} {x y : AX} (hx : chkX X x = true) (hy : chkX Y y = true) {neg : Bool} {t u : TypeId} (ho : o.op = .binOp (if neg then .neq else .eql) t X Y u) (ht : isBool P t = true) {m n : Bool}
    (h1 : rd φ x = .bool m) (h2 : rd φ y = .bool n) : Runs P o a w (After E nt φ H (.bool (if neg then decide (m ≠ n) else decide (m = n))) ρ ι a w) := by
  have e1 := (h1 ▸ rd_ok s hx).bool_inv
  have e2 := (h2 ▸ rd_ok s hy).bool_inv
  unfold isBool at ht
  split at ht <;> simp at ht
  rename_i et
  have he := run_equalIn_bool' (P := P) w 9999 t m n et
  refine .value _ ?_ (.same s bool_same)
  cases neg <;> simp [execOp, ho, e1, e2, eqGuard, binOp, Op.equal, Op.maxDepth, he, beq_dec]

theorem sl_some {F : Nat → Nat → Prop} {k : Nat} {rows : List (List V)} {x : Value} (h : R w F ι (.sl k rows) x) (hne : ¬ rows.length = 0) : ∃ b n c, x = .slice (some b) n c := by
  cases h with
  | pr h =>
    cases h with
    | sl k rows a cap b off vals hcap hn hk ha hc hr =>
      have : rows ≠ [] := fun e => hne (by rw [e]; rfl)
      rw [ha this]
      exact ⟨_, _, _, rfl⟩
theorem ms_some {F : Nat → Nat → Prop} {i off len cap : Nat} {x : Value} (h : R w F ι (.ms i off len cap) x) (hne : ¬ cap = 0) : ∃ b n c, x = .slice (some b) n c := by
  cases h with
  | pr h => cases h
  | ms i off len cap b base cap' ad h h1 h2 ha hn =>
    rw [ha hne]
    exact ⟨_, _, _, rfl⟩

theorem run_equalIn_nils {t e : TypeId} (et : P.underlying t = some (.slice e)) (w : World) (d : Nat) (b : Addr) (n c n' c' : Nat) : (Op.equalIn (d + 1) t (.slice (some b) n c) (.slice none n' c')).run P w = .ok false w := by
  simp [Op.equalIn, underlying, et]

theorem isn_ok (s : StA E nt φ H ρ ι a w [] []) {X Y : Operand} {x : AX} (hx : chkX X x = true) (hy : isNilS Y = true) {neg : Bool} {t u : TypeId} (ho : o.op = .binOp (if neg then .neq else .eql) t X Y u) (ht : isSliceT P t = true)
    (h1 : ∃ b n c, a.eval X = .slice (some b) n c) : Runs P o a w (After E nt φ H (.bool neg) ρ ι a w) := by
  obtain ⟨b, n, c, e1⟩ := h1
  unfold isNilS at hy
  split at hy <;> simp at hy
  rename_i n' c'
  have e2 : a.eval (.const (.slice none n' c')) = .slice none n' c' := rfl
  unfold isSliceT at ht
  split at ht <;> simp at ht
  rename_i et
  have he := run_equalIn_nils (P := P) et w 9999 b n c n' c'
  refine .value _ ?_ (.same s bool_same)
  cases neg <;> simp [execOp, ho, e1, e2, eqGuard, binOp, Op.equal, Op.maxDepth, he]

theorem run_equalIn_nilp {t e : TypeId} (et : P.underlying t = some (.pointer e)) (w : World) (d : Nat) (b : Addr) : (Op.equalIn (d + 1) t (.pointer (some b)) (.pointer none)).run P w = .ok false w := by
  simp [Op.equalIn, underlying, et]

theorem run_equalIn_nilp2 {t e : TypeId} (et : P.underlying t = some (.pointer e)) (w : World) (d : Nat) : (Op.equalIn (d + 1) t (.pointer none) (.pointer none)).run P w = .ok true w := by
  simp [Op.equalIn, underlying, et]

theorem nilp_none {F : Nat → Nat → Prop} {x : Value} (h : R w F ι .nilp x) : x = .pointer none := by
  cases h with
  | pr h => cases h; rfl

theorem ptr_some {F : Nat → Nat → Prop} {i off : Nat} {x : Value} (h : R w F ι (.ptr i off) x) : ∃ b, x = .pointer (some b) := by
  cases h with
  | pr h => cases h
  | ptr => exact ⟨_, rfl⟩

theorem isp_ok (s : StA E nt φ H ρ ι a w [] []) {X Y : Operand} (hy : isNilP Y = true) {neg : Bool} {t u : TypeId} (ho : o.op = .binOp (if neg then .neq else .eql) t X Y u) (ht : isPtrT P t = true)
    (h1 : ∃ b, a.eval X = .pointer (some b)) : Runs P o a w (After E nt φ H (.bool neg) ρ ι a w) := by
  obtain ⟨b, e1⟩ := h1
  unfold isNilP at hy
  split at hy <;> simp at hy
  have e2 : a.eval (.const (.pointer none)) = .pointer none := rfl
  unfold isPtrT at ht
  split at ht <;> simp at ht
  rename_i et
  have he := run_equalIn_nilp (P := P) et w 9999 b
  refine .value _ ?_ (.same s bool_same)
  cases neg <;> simp [execOp, ho, e1, e2, eqGuard, binOp, Op.equal, Op.maxDepth, he]

theorem isp_nil (s : StA E nt φ H ρ ι a w [] []) {X Y : Operand} (hy : isNilP Y = true) {neg : Bool} {t u : TypeId} (ho : o.op = .binOp (if neg then .neq else .eql) t X Y u) (ht : isPtrT P t = true)
    (e1 : a.eval X = .pointer none) : Runs P o a w (After E nt φ H (.bool (!neg)) ρ ι a w) := by
  unfold isNilP at hy
  split at hy <;> simp at hy
  have e2 : a.eval (.const (.pointer none)) = .pointer none := rfl
  unfold isPtrT at ht
  split at ht <;> simp at ht
  rename_i et
  have he := run_equalIn_nilp2 (P := P) et w 9999
  refine .value _ ?_ (.same s bool_same)
  cases neg <;> simp [execOp, ho, e1, e2, eqGuard, binOp, Op.equal, Op.maxDepth, he]

theorem notb_ok (s : StA E nt φ H ρ ι a w [] []) {X : Operand} {x : AX} (hx : chkX X x = true) {t : TypeId} (ho : o.op = .unOp .not t X) {b : Bool} (h1 : rd φ x = .bool b) : Runs P o a w (After E nt φ H (.bool (!b)) ρ ι a w) := by
  have e1 := (h1 ▸ rd_ok s hx).bool_inv
  exact .value _ (by simp [execOp, ho, e1, Op.unary]) (.same s bool_same)

theorem neg_ok (s : StA E nt φ H ρ ι a w [] []) {X : Operand} {x : AX} (hx : chkX X x = true) {t : TypeId} (ho : o.op = .unOp .neg t X) {k : IntKind} {n : Int} (h1 : rd φ x = .int k n) : Runs P o a w (After E nt φ H (.int k (k.wrap (0 - n))) ρ ι a w) := by
  have e1 := (h1 ▸ rd_ok s hx).int_inv
  exact .value _ (by simp [execOp, ho, e1, Op.unary, Op.intArith]) (.same s int_same)

theorem cpl_ok (s : StA E nt φ H ρ ι a w [] []) {X : Operand} {x : AX} (hx : chkX X x = true) {t : TypeId} (ho : o.op = .unOp .xor t X) {k : IntKind} {n : Int} (h1 : rd φ x = .int k n) {v : V}
    (h : arith .xor k (if k.signed then -1 else k.max) n = some v) : Runs P o a w (After E nt φ H v ρ ι a w) := by
  have e1 := (h1 ▸ rd_ok s hx).int_inv
  simp only [arith, Option.some.injEq] at h
  subst h
  exact .value _ (by simp [execOp, ho, e1, Op.unary, Op.intBits]) (.same s int_same)

theorem conv_ok (s : StA E nt φ H ρ ι a w [] []) {X : Operand} {x : AX} (hx : chkX X x = true) {src dst : TypeId} (ho : o.op = .convert src dst X) {k k1 : IntKind} {n : Int} (hs : (P.underlying src).isSome = true) (hd : isInt P dst k = true)
    (h1 : rd φ x = .int k1 n) : Runs P o a w (After E nt φ H (.int k (k.wrap n)) ρ ι a w) := by
  have e1 := (h1 ▸ rd_ok s hx).int_inv
  obtain ⟨d, hd1⟩ := Option.isSome_iff_exists.1 hs
  unfold isInt at hd
  split at hd <;> simp at hd
  rename_i k' e2
  subst hd
  exact .value _ (by simp [execOp, ho, e1, convert, underlying, hd1, e2, Conv.intToInt]) (.same s int_same)

theorem i2s_ok (s : StA E nt φ H ρ ι a w [] []) {X : Operand} {x : AX} (hx : chkX X x = true) {src dst : TypeId} (ho : o.op = .convert src dst X) {k1 : IntKind} {n : Int} (hs : isInt P src k1 = true) (hd : isString P dst = true)
    (h1 : rd φ x = .int k1 n) : Runs P o a w (After E nt φ H (.str (Utf8.encode n).data.toList) ρ ι a w) := by
  have e1 := (h1 ▸ rd_ok s hx).int_inv
  unfold isInt at hs
  split at hs <;> simp at hs
  rename_i k' e0
  unfold isString at hd
  split at hd <;> simp at hd
  rename_i e2
  exact .value (.string (Utf8.encode n)) (by simp [execOp, ho, e1, convert, underlying, e0, e2, Conv.intToString]) (.same s (.pr (.str _)))

theorem mx_ok (s : StA E nt φ H ρ ι a w [] []) {X Y : Operand} {x y : AX} (hx : chkX X x = true) (hy : chkX Y y = true) {isMax : Bool} {at_ : Array TypeId} (ho : o.op = .call { callee := .builtin (if isMax then .max else .min), args := #[X, Y], argTypes := at_ }) {k k2 : IntKind} {m n : Int}
    (h1 : rd φ x = .int k m) (h2 : rd φ y = .int k2 n) : Runs P o a w (After E nt φ H (.int k (if isMax then max m n else min m n)) ρ ι a w) := by
  have e1 := (h1 ▸ rd_ok s hx).int_inv
  have e2 := (h2 ▸ rd_ok s hy).int_inv
  refine .value _ ?_ (.same s int_same)
  cases isMax
  · simp [execOp, ho, e1, e2, resolve, invoke, builtin, Builtin.min_, Builtin.min2, List.foldlM]
    omega
  · simp [execOp, ho, e1, e2, resolve, invoke, builtin, Builtin.max_, Builtin.max2, List.foldlM]
    omega

end
end Go.AM
