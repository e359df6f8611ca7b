/-
  Bytes and strings; a block that nobody writes any more; copies and clears.
-/
import Derived.Test.YtbgblfbbeamleaaGreatDoorOpX
set_option linter.unusedVariables false
set_option linter.unusedSimpArgs false
namespace Go.AM

theorem rowsBytes_ok : ∀ {rows : List (List V)} {bs : List UInt8}, rowsBytes rows = some bs → rows = bytesRows bs
  | [], bs, h => by simp only [rowsBytes, Option.some.injEq] at h; subst h; rfl
  | r :: rows, bs, h => by
    unfold rowsBytes at h
    split at h
    · simp at *
    · rename_i n r' he
      simp only [List.cons.injEq] at he
      obtain ⟨rfl, rfl⟩ := he
      split at h
      · rename_i hn
        simp only [Option.map_eq_some_iff] at h
        obtain ⟨bs', h1, rfl⟩ := h
        rw [rowsBytes_ok h1]
        simp only [bytesRows, List.map_cons, List.cons.injEq, V.int.injEq, true_and, and_true]
        have : n.toNat < 256 := by omega
        simp [Nat.mod_eq_of_lt this]; omega
      · cases h
    · cases h

theorem fold_push : ∀ (bs acc : List UInt8), (bs.map fun b => (b.toNat : Int)).foldl (fun (r : ByteArray) n => r.push (UInt8.ofNat n.toNat)) ⟨acc.toArray⟩ = ⟨(acc ++ bs).toArray⟩
  | [], acc => by simp
  | b :: bs, acc => by
    simp only [List.map_cons, List.foldl_cons]
    have : (ByteArray.mk acc.toArray).push (UInt8.ofNat (b.toNat : Int).toNat) = ⟨(acc ++ [b]).toArray⟩ := by
      simp [ByteArray.push]
    rw [this, fold_push bs (acc ++ [b])]
    simp

section
variable {P : Program} {E : LblP} {nt : Cx} {φ : Fr} {H : Heap} {ρ : Own} {ι : Places} {a : Act} {w : World} {o : Oper}

theorem isBytes_ok {t : TypeId} (h : isBytes P t = true) : ∃ e, P.underlying t = some (.slice e) ∧ P.underlying e = some (.int .u8) ∧ sizeIs P e 1 = true := by
  unfold isBytes at h
  split at h
  · rename_i e he
    simp only [Bool.and_eq_true] at h
    obtain ⟨h1, h2⟩ := h
    unfold isInt at h1
    split at h1
    · rename_i k hk
      have : IntKind.u8 = k := by simpa using h1
      subst this
      exact ⟨e, he, hk, h2⟩
    · cases h1
  · cases h

theorem isString_ok {t : TypeId} (h : isString P t = true) : P.underlying t = some .string := by
  unfold isString at h
  split at h
  · assumption
  · cases h

theorem b2s_ok (s : StA E nt φ H ρ ι a w [] []) {X : Operand} {x : AX} (hx : chkX X x = true) {src dst : TypeId} (hs : isBytes P src = true) (hd : isString P dst = true) (ho : o.op = .convert src dst X) {rows : List (List V)} {bs : List UInt8}
    (hslice : ∃ ad len cap, a.eval X = .slice ad len cap) (h1 : rowsOf H 1 (rd φ x) = some rows) (h2 : rowsBytes rows = some bs) : Runs P o a w (After E nt φ H (.str bs) ρ ι a w) := by
  obtain ⟨e, he, hu, hk⟩ := isBytes_ok hs
  have hd' := isString_ok hd
  obtain rfl := rowsBytes_ok h2
  obtain ⟨hl, hw, hc⟩ := src_ok (P := P) s hx h1
  obtain ⟨ys, hf, hys⟩ := hc _ (Nat.le_refl _)
  rw [List.take_length, bytesRows_flat] at hys
  have hlen : (bytesRows bs).length = bs.length := by simp [bytesRows]
  rw [hlen] at hf hl
  obtain ⟨ad, len, cap, eX⟩ := hslice
  rw [eX] at hl hf
  have hll : len = bs.length := by simpa [Builtin.lenOf] using hl
  subst hll
  have hyv : ys = ((bs.map fun b => (b.toNat : Int)).map (Value.int .u8)).toArray := by
    apply Array.ext (by simp [hys.1])
    intro j h1 h2
    have hj : j < bs.length := by simpa using h2
    have := hys.2 j (V.int .u8 (bs[j].toNat)) ys[j] (by simp [hj]) (by simp)
    rw [this.int_inv]
    simp
  refine .value (.string ⟨bs.toArray⟩) ?_ (.same s (.pr (.str _)))
  have hconv : (convert src dst (.slice ad bs.length cap)).run P w = .ok (.string ⟨bs.toArray⟩) w := by
    rw [run_convert_bytes_string w src dst e ad bs.length cap he hu hd']
    cases ad with
    | none =>
      have : ys = #[] := by
        have : (#[] : Array Value) = ys := by simpa [Builtin.firstCells] using hf
        exact this.symm
      rw [this] at hyv
      have hb : bs = [] := by
        have := congrArg Array.size hyv
        simp at this
        exact List.eq_nil_of_length_eq_zero this.symm
      subst hb
      simp [Conv.bytesToString]
      rfl
    | some ad =>
      have hload : (loadCells ad bs.length).run P w = .ok ((bs.map fun b => (b.toNat : Int)).map (Value.int .u8)).toArray w := by
        rw [← hyv]
        simpa [Builtin.firstCells] using hf
      rw [run_bytesToString w ad bs.length cap _ hload]
      have := fold_push bs []
      simp only [List.nil_append] at this
      rw [← this]
      rfl
  simp only [execOp, ho, eX, Sem.run_bind, hconv]
  rfl

theorem freeze_heap (w : World) (b n k : Nat) : (w.freeze ⟨b, n, none⟩ 1).heap[k]? = if k = b then (w.heap[k]?).map (fun | .cells c elem (lo, hi) => .cells c elem (if lo == hi then (n, n + 1) else (min lo n, max hi (n + 1))) | o => o) else w.heap[k]? := by
  unfold World.freeze
  rw [if_neg (by omega)]
  simp only [Array.getElem?_modify]
  by_cases h : b = k
  · subst h; simp; rfl
  · rw [if_neg h, if_neg (fun hh => h hh.symm)]

theorem s2b_ok (s : StA E nt φ H ρ ι a w [] []) {X : Operand} {x : AX} (hx : chkX X x = true) {src dst : TypeId} (hs : isString P src = true) (hd : isBytes P dst = true) (ho : o.op = .convert src dst X) {bs : List UInt8} (h1 : rd φ x = .str bs) :
    Runs P o a w (After E nt φ H (.own 1 (bytesRows bs)) ρ ι a w) := by
  obtain ⟨e, he, hu, hk⟩ := isBytes_ok hd
  have hs' := isString_ok hs
  have eX := (h1 ▸ rd_ok s hx).str_inv
  have hsz : (ByteArray.mk bs.toArray).size = bs.length := by simp [ByteArray.size]
  obtain ⟨c, hc⟩ : ∃ c, c = grownCap w bs.length 0 e := ⟨_, rfl⟩
  have hcl : bs.length ≤ c := by rw [hc]; unfold grownCap Question.cut; simp
  obtain ⟨cells, hcells⟩ : ∃ cells : Array Value, cells = (bs.toArray.map fun b => Value.int .u8 b.toNat) ++ Array.replicate (c - bs.length) (.int .u8 0) := ⟨_, rfl⟩
  have hcs : cells.size = c := by rw [hcells]; simp; omega
  obtain ⟨w', hw'⟩ : ∃ w', w' = (w.drew.alloc (.cells cells e)).freeze ⟨w.heap.size, c, none⟩ 1 := ⟨_, rfl⟩
  have hnew : w'.heap[w.heap.size]? = some (.cells cells e (c, c + 1)) := by
    rw [hw', freeze_heap, if_pos rfl]
    have := heap_alloc_new w.drew (.cells cells e)
    simp only [World.size_drew] at this
    rw [this]; rfl
  have hsize : w'.heap.size = w.heap.size + 1 := by rw [hw']; unfold World.freeze; rw [if_neg (by omega)]; simp
  have kp : Kp (fun _ _ => False) w w' := by
    refine ⟨by rw [hw']; unfold World.freeze; rfl, by rw [hw']; unfold World.freeze; rfl, by rw [hw']; unfold World.freeze; rfl, by omega, fun b hb => ?_⟩
    rw [hw', freeze_heap, if_neg (by omega), Go.RowKit.Below.heap_alloc _ _ _ (by simpa using hb)]
    exact .refl _ _
  have hflat := bytesRows_flat bs
  have hlen : (bytesRows bs).length = bs.length := by simp [bytesRows]
  have hwid : ∀ r ∈ bytesRows bs, r.length = 1 := by simp [bytesRows]
  obtain ⟨ρ', s', g⟩ := s.fresh (w' := w') kp (some (bs.length * 1)) (fun _ => by omega) (v := .own 1 (bytesRows bs)) (x := .slice (some ⟨w.heap.size, 0, none⟩) bs.length c) (fun F' hF => by
    have hR := new_rows (k := 1) (n := bs.length) (cap := c) (cells := (bytesRows bs).flatten) (xs := cells) (t := e) (w := w) (F := foot ρ) (w' := w') (F' := F')
      (fun j v x hv hx => by
        rw [hflat, List.getElem?_map, Option.map_eq_some_iff] at hv
        obtain ⟨b, hb, rfl⟩ := hv
        have hj := get_some hb
        rw [hcells, Array.getElem?_append_left (by simpa using hj)] at hx
        simp [hb] at hx
        subst hx
        exact .int _ _) (by rw [hflat]; simp) (by rw [hflat, hcs]; simpa using hcl) hcl hnew (fun o ho1 h => by
          rw [hflat] at ho1
          simp at ho1
          rcases (hF _ _).1 h with ⟨l, q, hl, _⟩ | ⟨m, h1, _, h3⟩
          · have := s.sep.here _ _ _ hl; omega
          · simp at h1; omega) (fresh_mono kp _ hF)
    have hch := chunk_flatten (k := 1) (rows := bytesRows bs) [] hwid
    simp only [List.nil_append, List.length_nil, hlen] at hch
    rw [hch] at hR
    refine ⟨hR, some ⟨w.heap.size, 0, none⟩, c, by rw [hlen], 0, cells, e, (c, c + 1), rfl, by rw [hlen]; simp, hnew, by omega, fun o h1 h2 => ?_⟩
    unfold World.frozen?
    rw [hnew]
    simp; omega)
  refine .value _ ?_ ⟨ρ', ι, s', g⟩
  have hq : (Question.appendCap bs.length 0 e).cut (w.tape w.drawn (.appendCap bs.length 0 e)) = c := hc.symm
  have hsh : (w.drew.alloc (.cells cells e)).shape? w.heap.size = some (e, c) := by
    unfold World.shape?
    have := heap_alloc_new w.drew (.cells cells e)
    simp only [World.size_drew] at this
    rw [this]
    simp [hcs]
  have hconv : (convert src dst (.string ⟨bs.toArray⟩)).run P w = .ok (.slice (some ⟨w.heap.size, 0, none⟩) bs.length c) w' := by
    simp only [convert, Sem.run_bind, run_underlying hs', run_underlying he, run_underlying hu, Result.andThen]
    simp [Conv.stringToBytes, Question.forced, hsz, hq, newRow, markStringish]
    have hcells' : cells = (bs.map fun b => Value.int .u8 b.toNat).toArray ++ Array.replicate (c - bs.length) (.int .u8 0) := by rw [hcells]; simp
    rw [← hcells', hsh, hw']
    rfl
  simp only [execOp, ho, eX, Sem.run_bind, hconv]
  rfl

/-- A block that nobody writes any more: what was a part of it is a list now. -/
theorem frz_ok (s : StA E nt φ H ρ ι a w [] []) {X : Operand} {x : AX} (hx : chkX X x = true) (ho : o.op = .move X ∨ o.op = .assign X) {i off len cap k : Nat} {cs : List V} (hr : rd φ x = .ms i off len cap) (hi : H[i]? = some (some cs)) (hle : off + len * k ≤ cs.length)
    (hp : cs.all V.plain = true) : Runs P o a w (After E nt φ (H.set i none) (.sl k (chunk k (allStrip cs) off len)) ρ ι a w) := by
  obtain ⟨b, base, cap', ad, hpi, hlc, hcc, had, hnn, eX⟩ := (hr ▸ rd_ok s hx).ms_inv
  obtain ⟨hbi, c, t, fr, hrow, hsz, hfz, hcells⟩ := s.mem.at hi hpi
  have hil := get_some hi
  -- the owners, less the block and its cells
  let ρ' : Own := fun l => match l with
    | .blk q => if q = i then none else ρ (.blk q)
    | .cell q j => if q = i then none else ρ (.cell q j)
    | l => ρ l
  have hsub : ∀ l p, ρ' l = some p → ρ l = some p ∧ l ≠ .blk i := by
    intro l p h
    cases l with
    | blk q =>
      simp only [ρ'] at h
      split at h
      · cases h
      · exact ⟨h, by simpa using ‹_›⟩
    | cell q j =>
      simp only [ρ'] at h
      split at h
      · cases h
      · exact ⟨h, by simp⟩
    | slot q => exact ⟨h, by simp⟩
    | arg q => exact ⟨h, by simp⟩
    | fr q => exact ⟨h, by simp⟩
  have g : Goes ρ ι w ρ' ι w := Goes.sub ι w (fun l p h => (hsub l p h).1) (fun _ => rfl)
  have hnb : ∀ o, ¬ foot ρ' b o := by
    rintro o ⟨l, q, hl, _⟩
    have := hsub l _ hl
    exact this.2 (s.sep.one _ _ _ _ _ this.1 hbi)
  have m' : Mem E (H.set i none) ι ρ' w := by
    refine ⟨by simp [s.mem.len], fun q vs hq hne => ?_, fun q vs l hq hl => ?_, fun q hq => ?_, fun q vs j hq hj => ?_, s.mem.glo.ext g, fun N hN => by rw [List.length_set]; exact s.mem.lim N hN⟩
    · have hqi : q ≠ i := by
        rintro rfl
        rw [List.getElem?_set_self hil] at hq; cases hq
      rw [List.getElem?_set_ne (by omega)] at hq
      obtain ⟨b1, base1, c1, t1, fr1, q1, q2, q3, q4, q5, q6⟩ := s.mem.blk q vs hq hne
      refine ⟨b1, base1, c1, t1, fr1, q1, by simp only [ρ']; rw [if_neg hqi]; exact q2, q3, q4, q5, fun j v hv => ?_⟩
      obtain ⟨z, r1, r2, r3⟩ := q6 j v hv
      exact ⟨z, r1, by simp only [ρ']; rw [if_neg hqi]; exact r2.ext g (by simp only [ρ']; rw [if_neg hqi]), r3⟩
    · have hqi : q ≠ i := by
        rintro rfl
        exact not_lp hpi l hl
      rw [List.getElem?_set_ne (by omega)] at hq
      exact (s.mem.rcd q vs l hq hl).ext g (by simp only [ρ']; rw [if_neg hqi]) (fun j => by simp only [ρ']; rw [if_neg hqi]) (fun _ _ _ _ _ => rfl)
    · by_cases hqi : q = i
      · simp [ρ', hqi]
      · have := s.mem.dead q (fun vs hv => hq vs (by rw [List.getElem?_set_ne (by omega)]; exact hv))
        simp only [ρ']; simp only [hqi, if_false]; exact this
    · have hqi : q ≠ i := by
        rintro rfl
        rw [List.getElem?_set_self hil] at hq; cases hq
      rw [List.getElem?_set_ne (by omega)] at hq
      simp only [ρ']; rw [if_neg hqi]
      exact s.mem.past q vs j hq hj
  have s' : StA E nt φ (H.set i none) ρ' ι a w [] [] := s.go g (fun _ => rfl) (fun _ => rfl) m' (s.sep.sub (fun l p h => (hsub l p h).1))
  refine .value (a.eval X) (by rcases ho with h | h <;> simp [execOp, h]) ⟨ρ', ι, s'.value ?_, g⟩
  rw [eX]
  have hcl := chunk_length len k (allStrip cs) off
  have hw := chunk_width (n := len) (k := k) (cs := allStrip cs) (off := off) (by simpa [allStrip] using hle)
  have hget : ∀ (q j : Nat) (r : List V) (v : V), (chunk k (allStrip cs) off len)[q]? = some r → r[j]? = some v → ∃ y, w.cell? ⟨b, base + off + q * k + j, none⟩ = some y ∧ ¬ foot ρ' b (base + off + q * k + j) ∧ PR w (foot ρ') v y := by
    intro q j r v hq hj
    obtain ⟨_, _, h5⟩ := chunk_cell hq hj
    simp only [allStrip, List.getElem?_map, Option.map_eq_some_iff] at h5
    obtain ⟨u, hu, rfl⟩ := h5
    obtain ⟨y, h6, h7, _⟩ := hcells _ u hu
    have hpu : u.plain = true := List.all_eq_true.1 hp u (List.mem_of_getElem? hu)
    have hne : ∀ k r, u ≠ .own k r := by rintro k r rfl; cases hpu
    refine ⟨y, by rw [cell_of_obj hrow, show base + off + q * k + j = base + (off + q * k + j) by omega]; exact h6, hnb _, ?_⟩
    exact (plain_PR ((RL_other hne).1 h7).1 hpu).strip.ext g
  have hex : ∀ q j, ∃ y, ∀ r v, (chunk k (allStrip cs) off len)[q]? = some r → r[j]? = some v → w.cell? ⟨b, base + off + q * k + j, none⟩ = some y ∧ ¬ foot ρ' b (base + off + q * k + j) ∧ PR w (foot ρ') v y := by
    intro q j
    by_cases h1 : ∃ r v, (chunk k (allStrip cs) off len)[q]? = some r ∧ r[j]? = some v
    · obtain ⟨r, v, h2, h3⟩ := h1
      obtain ⟨y, hy⟩ := hget q j r v h2 h3
      exact ⟨y, fun r' v' h4 h5 => by rw [h2] at h4; cases h4; rw [h3] at h5; cases h5; exact hy⟩
    · exact ⟨default, fun r v h2 h3 => absurd ⟨r, v, h2, h3⟩ h1⟩
  have := PR.sl (w := w) (F := foot ρ') k (chunk k (allStrip cs) off len) ad cap' b (base + off) (fun q j => (hex q j).choose) (by rw [hcl]; omega) hnn hw (fun hne => had (by
      rintro rfl
      exact hne (List.eq_nil_of_length_eq_zero (by rw [hcl]; omega))))
    (fun q j r v h1 h2 => ⟨((hex q j).choose_spec r v h1 h2).1, ((hex q j).choose_spec r v h1 h2).2.1⟩) (fun q j r v h1 h2 => ((hex q j).choose_spec r v h1 h2).2.2)
  rw [hcl] at this
  exact .pr this


/-- The rows that could be written still are given up. -/
theorem StA.freeze (s : StA E nt φ H ρ ι a w [] []) {k : Nat} {rows : List (List V)} {i n : Nat} {y : Value} (hR : AM.R w (foot ρ) ι (.mix k rows i n) y) {cs : List V} (hi : H[i]? = some (some cs)) (hle : n * k ≤ cs.length) (hp : cs.all V.plain = true) :
    ∃ ρ2, StA E nt φ (H.set i none) ρ2 ι a w [.own k (rows ++ chunk k (allStrip cs) 0 n)] [y] ∧ Goes ρ ι w ρ2 ι w := by
  obtain ⟨b, off, cap, hpi, hlc, hP, hcap, rfl⟩ := hR.mix_inv
  obtain ⟨hbi, c, t, fr, hrow, hsz, hfz, hcells⟩ := s.mem.at hi hpi
  have hil := get_some hi
  let ρ' : Own := fun l => match l with
    | .blk q => if q = i then none else ρ (.blk q)
    | .cell q j => if q = i then none else ρ (.cell q j)
    | .arg j => if j = 0 then some (b, off + (rows.length + n) * k) else ρ (.arg j)
    | l => ρ l
  have hmul := Nat.add_mul rows.length n k
  have hup : ∀ l p, ρ' l = some p → (l = .arg 0 ∧ p = (b, off + (rows.length + n) * k)) ∨ (l ≠ .arg 0 ∧ ρ l = some p ∧ l ≠ .blk i) := by
    intro l p h
    cases l with
    | blk q =>
      simp only [ρ'] at h
      split at h
      · cases h
      · exact .inr ⟨by simp, h, by simpa using ‹_›⟩
    | cell q j =>
      simp only [ρ'] at h
      split at h
      · cases h
      · exact .inr ⟨by simp, h, by simp⟩
    | slot q => exact .inr ⟨by simp, h, by simp⟩
    | fr q => exact .inr ⟨by simp, h, by simp⟩
    | arg j =>
      simp only [ρ'] at h
      split at h
      · subst_vars; exact .inl ⟨rfl, by simpa using h.symm⟩
      · exact .inr ⟨by simpa using ‹_›, h, by simp⟩
  have g : Goes ρ ι w ρ' ι w := by
    refine .of (.refl _ _) (fun _ _ h => h) (fun l b' q hm h => ?_) (fun _ => rfl) (fun b _ => .refl b w)
    rcases hup l _ h with ⟨_, h1⟩ | ⟨_, h1, _⟩
    · simp only [Prod.mk.injEq] at h1
      obtain ⟨rfl, rfl⟩ := h1
      exact .inr ⟨.blk i, _, rfl, hbi, by omega⟩
    · exact .inr ⟨l, q, hm, h1, Nat.le_refl _⟩
  have hnb : ∀ o, foot ρ' b o → off + (rows.length + n) * k ≤ o := by
    rintro o ⟨l, q, hl, hq⟩
    rcases hup l _ hl with ⟨_, h1⟩ | ⟨_, h1, h2⟩
    · simp only [Prod.mk.injEq] at h1; omega
    · exact absurd (s.sep.one _ _ _ _ _ h1 hbi) h2
  have m' : Mem E (H.set i none) ι ρ' w := by
    refine ⟨by simp [s.mem.len], fun q vs hq hne => ?_, fun q vs l hq hl => ?_, fun q hq => ?_, fun q vs j hq hj => ?_, s.mem.glo.ext g, fun N hN => by rw [List.length_set]; exact s.mem.lim N hN⟩
    · have hqi : q ≠ i := by
        rintro rfl
        rw [List.getElem?_set_self hil] at hq; cases hq
      rw [List.getElem?_set_ne (by omega)] at hq
      obtain ⟨b1, base1, c1, t1, fr1, q1, q2, q3, q4, q5, q6⟩ := s.mem.blk q vs hq hne
      refine ⟨b1, base1, c1, t1, fr1, q1, by simp only [ρ']; rw [if_neg hqi]; exact q2, q3, q4, q5, fun j v hv => ?_⟩
      obtain ⟨z, r1, r2, r3⟩ := q6 j v hv
      exact ⟨z, r1, by simp only [ρ']; rw [if_neg hqi]; exact r2.ext g (by simp only [ρ']; rw [if_neg hqi]), r3⟩
    · have hqi : q ≠ i := by
        rintro rfl
        exact not_lp hpi l hl
      rw [List.getElem?_set_ne (by omega)] at hq
      exact (s.mem.rcd q vs l hq hl).ext g (by simp only [ρ']; rw [if_neg hqi]) (fun j => by simp only [ρ']; rw [if_neg hqi]) (fun _ _ _ _ _ => rfl)
    · by_cases hqi : q = i
      · simp [ρ', hqi]
      · have := s.mem.dead q (fun vs hv => hq vs (by rw [List.getElem?_set_ne (by omega)]; exact hv))
        simp only [ρ']; simp only [hqi, if_false]; exact this
    · have hqi : q ≠ i := by
        rintro rfl
        rw [List.getElem?_set_self hil] at hq; cases hq
      rw [List.getElem?_set_ne (by omega)] at hq
      simp only [ρ']; rw [if_neg hqi]
      exact s.mem.past q vs j hq hj
  refine ⟨ρ', ⟨s.sz, s.df, fun q => (s.sl q).ext (k := .slot q) g rfl, rfl, fun j v x hv hx => ?_, fun j hj => ?_, m', ⟨fun l l' b1 q q' h h' => ?_, fun l b1 q h => ?_⟩, s.wd⟩, g⟩
  · cases j with
    | succ j => simp at hv
    | zero =>
      simp at hv hx; subst hv; subst hx
      have hcl := chunk_length n k (allStrip cs) 0
      have hw := chunk_width (n := n) (k := k) (cs := allStrip cs) (off := 0) (by simpa [allStrip] using hle)
      have hlen : (rows ++ chunk k (allStrip cs) 0 n).length = rows.length + n := by simp [hcl]
      have hPR := (hP.ext g).append (new := chunk k (allStrip cs) 0 n) hw (by rw [hcl]; exact hlc) (fun q j r v hq hj => by
        obtain ⟨_, _, h5⟩ := chunk_cell hq hj
        simp only [allStrip, List.getElem?_map, Option.map_eq_some_iff] at h5
        obtain ⟨u, hu, rfl⟩ := h5
        obtain ⟨y, h6, h7, _⟩ := hcells _ u hu
        have hpu : u.plain = true := List.all_eq_true.1 hp u (List.mem_of_getElem? hu)
        have hne : ∀ k r, u ≠ .own k r := by rintro k r rfl; cases hpu
        have hqn := get_some hq
        rw [hcl] at hqn
        have h8 := Nat.add_mul rows.length q k
        have h9 := Nat.mul_le_mul_right k (show q + 1 ≤ n by omega)
        rw [Nat.add_mul] at h9
        have hjk : j < k := by have := hw r (List.mem_of_getElem? hq); have := get_some hj; omega
        refine ⟨y, by rw [cell_of_obj hrow, show off + (rows.length + q) * k + j = off + rows.length * k + (0 + q * k + j) by omega]; exact h6, fun hff => ?_, ?_⟩
        · have := hnb _ hff; omega
        · exact (plain_PR ((RL_other hne).1 h7).1 hpu).strip.ext g)
      rw [hcl] at hPR
      refine ⟨hPR, some ⟨b, off, none⟩, cap, by rw [hlen], ?_⟩
      have e1 : ρ' (.arg 0) = some (b, off + (rows.length + n) * k) := by simp [ρ']
      rw [e1]
      obtain ⟨c2, t2, fr2, h1, h2⟩ := hcap
      rw [hrow] at h1
      simp only [Option.some.injEq, Obj.cells.injEq] at h1
      obtain ⟨rfl, rfl, rfl⟩ := h1
      exact ⟨off, c, t, fr, rfl, by rw [hlen], hrow, h2, fun o h1 h2 => hfz o (by omega) h2⟩
  · simp at hj
    simp only [ρ']; rw [if_neg (by omega)]; exact s.an j (by simp)
  · rcases hup l _ h with ⟨rfl, h1⟩ | ⟨q1, h1, q2⟩ <;> rcases hup l' _ h' with ⟨rfl, h2⟩ | ⟨q3, h2, q4⟩
    · rfl
    · simp only [Prod.mk.injEq] at h1; obtain ⟨rfl, _⟩ := h1; exact absurd (s.sep.one _ _ _ _ _ h2 hbi) q4
    · simp only [Prod.mk.injEq] at h2; obtain ⟨rfl, _⟩ := h2; exact absurd (s.sep.one _ _ _ _ _ h1 hbi) q2
    · exact s.sep.one _ _ _ _ _ h1 h2
  · rcases hup l _ h with ⟨_, h1⟩ | ⟨_, h1, _⟩
    · simp only [Prod.mk.injEq] at h1; obtain ⟨rfl, _⟩ := h1; exact lt_of_obj hrow
    · exact s.sep.here _ _ _ h1

theorem frzMix_inv {H : Heap} {v u : V} {H' : Heap} (h : frzMix H v = some (u, H')) : ∃ k rows i n cs, v = .mix k rows i n ∧ H[i]? = some (some cs) ∧ n * k ≤ cs.length ∧ cs.all V.plain = true ∧ u = .own k (rows ++ chunk k (allStrip cs) 0 n) ∧ H' = H.set i none := by
  unfold frzMix at h
  split at h
  · split at h
    · split at h
      · rename_i hh
        simp only [Option.some.injEq, Prod.mk.injEq] at h
        obtain ⟨rfl, rfl⟩ := h
        exact ⟨_, _, _, _, _, rfl, ‹_›, hh.1, hh.2, rfl, rfl⟩
      · cases h
    · cases h
  · cases h

theorem tkf_ok (s : StA E nt φ H ρ ι a w [] []) {X : Operand} {x : AX} (hx : chkX X x = true) (ho : o.op = .move X ∨ o.op = .assign X) {u : V} {H' : Heap} (h : frzMix H (rd φ x) = some (u, H')) : Runs P o a w (After E nt φ H' u ρ ι a w) := by
  obtain ⟨k, rows, i, n, cs, e, hi, hle, hp, rfl, rfl⟩ := frzMix_inv h
  obtain ⟨ρ2, s2, g2⟩ := s.freeze (e ▸ rd_ok s hx) hi hle hp
  exact .value (a.eval X) (by rcases ho with h | h <;> simp [execOp, h]) ⟨ρ2, ι, s2, g2⟩

theorem stf_ok (s : StA E nt φ H ρ ι a w [] []) {X Y : Operand} {x y : AX} (hx : chkX X x = true) (hy : chkX Y y = true) {t : TypeId} (ht : sizeIs P t 1 = true) (ho : o.op = .store t X Y) {i off : Nat} {cs : List V} {u : V} {H' : Heap} (hr : rd φ x = .ptr i off)
    (h : frzMix H (rd φ y) = some (u, H')) (hi : H'[i]? = some (some cs)) (hs : off + 1 ≤ cs.length) :
    Runs P o a w (After E nt φ (H'.set i (some (setMany cs off [u]))) .undef ρ ι a w) := by
  obtain ⟨k, rows, i2, n, ds, e, hi2, hle, hp, rfl, rfl⟩ := frzMix_inv h
  obtain ⟨ρ1, s1, g1⟩ := s.freeze (e ▸ rd_ok s hy) hi2 hle hp
  obtain ⟨b, base, hpp, eX⟩ := (hr ▸ rd_ok s hx).ptr_inv
  obtain ⟨hbi, c, ty, fr, hrow, hsz, hfz, _⟩ := s1.mem.at hi hpp
  have hRL := s1.ar 0 _ _ rfl rfl
  have hcells : (a.eval Y).cells = #[a.eval Y] := slice_cells hRL.1
  have hone : (a.eval Y).oneCell' = true := by
    obtain ⟨_, ad, cap, e2, _⟩ := hRL
    rw [e2]; rfl
  obtain ⟨w', run, hw⟩ := run_storeCells (P := P) [a.eval Y] (base + off) 0 w c ty fr hrow (by simp; omega) (fun o h1 h2 => hfz o (by omega) h2) (fun z hz => by simp at hz; rw [hz]; exact hone)
  rw [Nat.add_zero] at hw
  obtain ⟨ρ2, s2, g2⟩ := s1.store (vs := [.own k (rows ++ chunk k (allStrip ds) 0 n)]) (by simp) hi hpp hw rfl (by simpa using hs) (T := ρ1 (.arg 0)) (fun p h => h) (fun j v z hv hz => by
    cases j with
    | zero => simp at hv hz; subst hv; subst hz; exact ⟨by simpa using hRL, LblP.fit_of rfl⟩
    | succ j => simp at hv)
  refine .inr (.inl ⟨w', ?_, ρ2, ι, s2.value (.undef _), g1.trans g2⟩)
  simp [execOp, ho, eX, Instr.storeAt, Instr.sureAddr, storeVar, run_sizeOf ht, hcells, run]

end
end Go.AM
