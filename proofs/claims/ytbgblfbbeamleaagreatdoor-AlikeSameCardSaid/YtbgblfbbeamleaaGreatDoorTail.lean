/-
  The end of a region that appends and fills what it has appended: the new row may be filled ahead of the list's store or behind it. The two stores go to blocks of their own, so both ways come to one world.
-/
import Derived.Test.YtbgblfbbeamleaaGreatDoorRun
import Derived.Test.YtbgblfbbeamleaaGreatDoorCom
import Derived.Laws.IdiomCopy
set_option linter.unusedVariables false
set_option linter.unusedSimpArgs false
namespace Go.AM

theorem setCell_comm (w : World) {A B : Addr} (h : A.block ≠ B.block) (u v : Value) : (w.setCell A u).setCell B v = (w.setCell B v).setCell A u := by
  unfold World.setCell
  simp only
  congr 1
  apply Array.ext
  · simp
  · intro i h1 h2
    simp only [Array.getElem_modify]
    by_cases hA : A.block = i <;> by_cases hB : B.block = i <;> simp [hA, hB]
    exact absurd (hA.trans hB.symm) h

theorem setCell_setCells (b o : Nat) {A : Addr} (h : A.block ≠ b) (u : Value) : ∀ (vs : List Value) (o : Nat) (w : World), (w.setCell A u).setCells b o vs = (w.setCells b o vs).setCell A u
  | [], _, _ => rfl
  | v :: vs, o, w => by
    simp only [World.setCells]
    rw [setCell_comm w (A := A) (B := ⟨b, o, none⟩) h, setCell_setCells b o h u vs]

theorem setCells_comm {b b2 : Nat} (h : b ≠ b2) : ∀ (vs us : List Value) (o o2 : Nat) (w : World), (w.setCells b o vs).setCells b2 o2 us = (w.setCells b2 o2 us).setCells b o vs
  | vs, [], _, _, _ => rfl
  | vs, u :: us, o, o2, w => by
    simp only [World.setCells]
    rw [← setCell_setCells b o (A := ⟨b2, o2, none⟩) (fun e => h e.symm) u vs o w, setCells_comm h vs us o (o2 + 1)]

/-- Values may be written into a block from a place on. -/
def CanPut (w : World) (b o : Nat) (xs : List Value) : Prop := (∀ j, j < xs.length → (w.cell? ⟨b, o + j, none⟩).isSome = true) ∧ (∀ j, j < xs.length → w.frozen? ⟨b, o + j, none⟩ = false) ∧ ∀ v ∈ xs, v.oneCell' = true

theorem CanPut.set {w : World} {b o : Nat} {xs : List Value} (h : CanPut w b o xs) {b2 o2 : Nat} (hb : b ≠ b2) (ys : List Value) : CanPut (w.setCells b2 o2 ys) b o xs :=
  ⟨fun j hj => by rw [World.cell?_setCells_out b2 ys o2 w _ (fun h1 _ => absurd h1 hb)]; exact h.1 j hj, fun j hj => by rw [World.frozen?_setCells]; exact h.2.1 j hj, h.2.2⟩

theorem CanPut.of_row {w : World} {b o : Nat} {xs : List Value} {c : Array Value} {t : TypeId} {fr : Nat × Nat} (hrow : w.heap[b]? = some (.cells c t fr)) (hs : o + xs.length ≤ c.size) (hf : ∀ q, o ≤ q → q < c.size → w.frozen? ⟨b, q, none⟩ = false) (h1 : ∀ v ∈ xs, v.oneCell' = true) : CanPut w b o xs :=
  ⟨fun j hj => by rw [cell_of_obj hrow]; simp; omega, fun j hj => hf _ (by omega) (by omega), h1⟩

section
variable {P : Program} {E : LblP} {nt : Cx} {φ φ' ψ : Fr} {H H' : Heap} {ρ : Own} {ι : Places} {a : Act} {w : World} {o : Oper} {call : CallF} {v : V} {ops : Array Oper} {al : List AOper}

theorem run_store_cells {t : TypeId} {X Y : Operand} (ho : o.op = .store t X Y) {b off : Nat} (eX : a.eval X = .pointer (some ⟨b, off, none⟩)) (ht : sizeIs P t (a.eval Y).cells.size = true) {w' : World} (h : CanPut w' b off (a.eval Y).cells.toList) :
    (execOp a.eval o).run P w' = .ok .skip (w'.setCells b off (a.eval Y).cells.toList) := by
  have run := run_storeCells_cells (P := P) b off (a.eval Y).cells.toList 0 w' (by simpa using h.1) (by simpa using h.2.1) h.2.2
  rw [Nat.add_zero] at run
  simp [execOp, ho, eX, Instr.storeAt, Instr.sureAddr, storeVar, run_sizeOf ht, run]

/-- Where a store of whole cells goes. -/
theorem st_facts (s : StA E nt φ H ρ ι a w [] []) {X Y : Operand} {x y : AX} (hx : chkX X x = true) (hy : chkX Y y = true) {t : TypeId} {n : Nat} (ht : sizeIs P t n = true) (ho : o.op = .store t X Y) {i off : Nat} {cs : List V} (hr : rd φ x = .ptr i off)
    (hi : H[i]? = some (some cs)) (hn : (takeX φ y).1.cells.length = n) (hs : off + n ≤ cs.length) (h1 : (takeX φ y).1.cells.all V.one = true) :
    ∃ b base xs, ρ (.blk i) = some (b, base) ∧ CanPut w b (base + off) xs ∧ ∀ w', CanPut w' b (base + off) xs → (execOp a.eval o).run P w' = .ok .skip (w'.setCells b (base + off) xs) := by
  obtain ⟨b, base, hp, eX⟩ := (hr ▸ rd_ok s hx).ptr_inv
  obtain ⟨hbi, c, ty, fr, hrow, hsz, hfz, _⟩ := s.mem.at hi hp
  obtain ⟨ρ1, s1, g1⟩ := take_ok s hy
  simp only [List.nil_append] at s1
  have hR := s1.ar 0 _ _ rfl rfl
  have hv0 : (takeX φ y).1 ≠ .undef := by
    intro h; rw [h] at h1; simp [V.cells, V.one] at h1
  have hcells : (a.eval Y).cells.size = (takeX φ y).1.cells.length ∧ ∀ (j : Nat) (v : V) (z : Value), (takeX φ y).1.cells[j]? = some v → (a.eval Y).cells[j]? = some z → z.oneCell' = true := by
    rcases own_or (takeX φ y).1 with ⟨k, r, he⟩ | hne
    · rw [he] at hR ⊢
      refine ⟨by rw [slice_cells hR.1]; rfl, fun j v z hv hz => ?_⟩
      rw [slice_cells hR.1] at hz
      cases j with
      | zero =>
        simp [V.cells] at hv hz; subst hv; subst hz
        obtain ⟨_, ad, cap, e, _⟩ := hR
        rw [e]; rfl
      | succ j => simp at hz
    · have h0 := (RL_other hne).1 hR
      obtain ⟨q1, q2⟩ := cells_ok h0.1 hv0
      refine ⟨q1, fun j v z hv hz => ?_⟩
      have hRv := q2 j v z hv hz
      have : v.one = true := by simpa using List.all_eq_true.1 h1 v (List.mem_of_getElem? hv)
      exact one_cell hRv this
  refine ⟨b, base, (a.eval Y).cells.toList, hbi, CanPut.of_row hrow (by simp; omega) (fun o h1 h2 => hfz o (by omega) h2) (fun z hz => ?_), fun w' hw' => run_store_cells ho eX (by rw [hcells.1, hn]; exact ht) hw'⟩
  obtain ⟨j, hj⟩ := List.getElem?_of_mem hz
  have hlt : j < (takeX φ y).1.cells.length := by have := get_some hj; simp at this; omega
  exact hcells.2 j (takeX φ y).1.cells[j] z (by simp) (by simpa using hj)

/-- Where the store of a list goes that is given up. -/
theorem stf_facts (s : StA E nt φ H ρ ι a w [] []) {X Y : Operand} {x y : AX} (hx : chkX X x = true) (hy : chkX Y y = true) {t : TypeId} (ht : sizeIs P t 1 = true) (ho : o.op = .store t X Y) {k i2 n j off : Nat} {rows : List (List V)} {cs : List V} (hr : rd φ x = .ptr j off)
    (hm : rd φ y = .mix k rows i2 n) (hi : H[j]? = some (some cs)) (hs : off + 1 ≤ cs.length) :
    ∃ b base xs, ρ (.blk j) = some (b, base) ∧ CanPut w b (base + off) xs ∧ ∀ w', CanPut w' b (base + off) xs → (execOp a.eval o).run P w' = .ok .skip (w'.setCells b (base + off) xs) := by
  obtain ⟨b, base, hp, eX⟩ := (hr ▸ rd_ok s hx).ptr_inv
  obtain ⟨hbi, c, ty, fr, hrow, hsz, hfz, _⟩ := s.mem.at hi hp
  obtain ⟨b3, off3, cap, _, _, _, _, eY⟩ := (hm ▸ rd_ok s hy).mix_inv
  have hc : (a.eval Y).cells = #[a.eval Y] := by rw [eY]; rfl
  refine ⟨b, base, (a.eval Y).cells.toList, hbi, CanPut.of_row hrow (by rw [hc]; simp; omega) (fun o h1 h2 => hfz o (by omega) h2) (fun z hz => ?_), fun w' hw' => run_store_cells ho eX (by rw [hc]; exact ht) hw'⟩
  rw [hc] at hz
  simp at hz
  rw [hz, eY]; rfl

/-- The place of a row of a list that is being appended to. -/
theorem ixa_facts (s : StA E nt φ H ρ ι a w [] []) {X I : Operand} {x i : AX} (hx : chkX X x = true) (hi : chkX I i = true) {t : TypeId} {k : Nat} (ht : isSlice P t k = true) (ho : o.op = .indexAddr t X I) {rows : List (List V)} {b0 n j : Nat}
    (h1 : rd φ x = .mix k rows b0 n) (hj : index φ i (rows.length + n) = some j) (hrow : rows[j]? = none) : ∃ p, AM.R w (foot ρ) ι (.ptr b0 ((j - rows.length) * k)) p ∧ ∀ w', (execOp a.eval o).run P w' = .ok (.value p) w' := by
  obtain ⟨e, het, hek⟩ := isSlice_ok ht
  obtain ⟨kk, eI, hjn⟩ := index_ok s hi hj
  obtain ⟨b, off, cap, hpi, hlc, hP, _, eX⟩ := (h1 ▸ rd_ok s hx).mix_inv
  refine ⟨.pointer (some ⟨b, off + j * k, none⟩), ?_, fun w' => ?_⟩
  · have hjl : rows.length ≤ j := by
      rcases Nat.lt_or_ge j rows.length with h | h
      · rw [List.getElem?_eq_getElem h] at hrow; cases hrow
      · exact h
    have := R.ptr (w := w) (F := foot ρ) b0 ((j - rows.length) * k) b (off + rows.length * k) hpi
    have e2 : off + rows.length * k + (j - rows.length) * k = off + j * k := by
      rw [Nat.add_assoc, ← Nat.add_mul, show rows.length + (j - rows.length) = j by omega]
    rwa [e2] at this
  · have run := run_indexAt_slice (w := w') (cap := cap) het hek ⟨b, off, none⟩ kk j hjn
    simp [execOp, ho, eX, eI, run, add_eq]

theorem runs_skip {K : Value → World → Prop} (h : Runs P o a w K) {w1 : World} (hr : (execOp a.eval o).run P w = .ok .skip w1) : K Go.undef w1 := by
  rcases h with ⟨x, w2, h1, _⟩ | ⟨w2, h1, h2⟩ | ⟨f, args, w2, h1, _⟩ | ⟨l, f, t, c, d, w2, h1, _⟩
  · rw [hr] at h1; cases h1
  · rw [hr] at h1; cases h1; exact h2
  · rw [hr] at h1; cases h1
  · rw [hr] at h1; cases h1

theorem wp_skip_op (r : Option Nat) {w1 : World} {next : Act → World → Prop} {Q : Exit → Act → World → Prop} (hr : (execOp a.eval o).run P w = .ok .skip w1) (h : next (a.put o.dst Go.undef) w1) : o.wpIn (wideR r) 0 P a w next Q :=
  Runs.wp (K := fun x w2 => x = Go.undef ∧ w2 = w1) (.inr (.inl ⟨w1, hr, rfl, rfl⟩)) r (fun x w2 ⟨h1, h2⟩ => by subst h1 h2; exact h)

theorem wp_value_op (r : Option Nat) {w1 : World} {x : Value} {next : Act → World → Prop} {Q : Exit → Act → World → Prop} (hr : (execOp a.eval o).run P w = .ok (.value x) w1) (h : next (a.put o.dst x) w1) : o.wpIn (wideR r) 0 P a w next Q :=
  Runs.wp (K := fun y w2 => y = x ∧ w2 = w1) (.inl ⟨x, w1, hr, rfl, rfl⟩) r (fun y w2 ⟨h1, h2⟩ => by subst h1 h2; exact h)

/-! ### The three operations -/

theorem eval_put {a : Act} {X : Operand} {x : AX} (hx : chkX X x = true) {d : Nat} (hd : d ∉ x.slots) (v : Value) : (a.put (some d) v).eval X = a.eval X := by
  unfold chkX at hx
  split at hx
  · rename_i n m
    simp only [beq_iff_eq] at hx
    subst hx
    have : n ≠ d := by rintro rfl; exact hd (by simp [AX.slots])
    simp only [Act.eval, Act.put, Array.getD_eq_getD_getElem?, Array.getElem?_setIfInBounds]
    rw [if_neg (fun h => this h.symm)]
  · rfl
  · rfl
  · cases hx

theorem rd_put {x : AX} {d : Nat} (hd : d ∉ x.slots) (v : V) : rd ((d, v) :: φ) x = rd φ x := by
  refine rd_strip fun q hq => ?_
  have : q ≠ d := by rintro rfl; exact hd hq
  simp [this]

theorem ready_least {listed : Array Bool} (hA : ∀ (i : Nat) (o : Oper), ops[i]? = some o → ∀ e ∈ o.after, Region.binds .any e = true → e.on < i) {i : Nat} (hi : i < ops.size) (hsz : listed.size = ops.size) (hu : listed.getD i false = false) (hl : ∀ j, j < i → listed.getD j false = true) :
    i ∈ Region.ready .any ops listed := by
  obtain ⟨o, ho⟩ : ∃ o, ops[i]? = some o := ⟨ops[i], Array.getElem?_eq_getElem hi⟩
  exact mem_ready.2 ⟨getD_in (by omega) hu, o, ho, fun e he hb => hl _ (hA i o ho e he hb)⟩

theorem ready_un {listed : Array Bool} {i : Nat} (h : i ∈ Region.ready .any ops listed) : i < ops.size ∧ listed.getD i false = false := by
  obtain ⟨hu, o, ho, _⟩ := mem_ready.1 h
  exact ⟨(Array.getElem?_eq_some_iff.1 ho).1, getD_both hu⟩

theorem tail3_sound (hcall : CallOK E P call) {m : Nat} (ht : tail3 ops al m = true) (hc : chkOps P nt.w nt.n ops ops.toList al = true) (hlen : al.length = ops.size) (hget : ∀ (i : Nat) (o : Oper) (ao : AOper), ops[i]? = some o → al[i]? = some ao → chkOper P nt.w nt.n ops o ao = true)
    (hA : ∀ (i : Nat) (o : Oper), ops[i]? = some o → ∀ e ∈ o.after, Region.binds .any e = true → e.on < i) {listed : Array Bool} (hsz : listed.size = ops.size) (hl : ∀ i, i < m → listed.getD i false = true) (hu : ∀ i, m ≤ i → listed.getD i false = false)
    {φe : Fr} {He : Heap} (hrun : ∃ φ1, runOps call (al.drop m) φ H = some (φ1, He) ∧ ∀ q, Fr.get φ1 q = Fr.get φe q) (s : StA E nt φ H ρ ι a w [] []) (hcongr : ∀ {φ ψ : Fr} {H : Heap} {ρ : Own} {ι : Places} {a : Act} {w : World}, StA E nt φ H ρ ι a w [] [] → (∀ q, Fr.get φ q = Fr.get ψ q) → StA E nt ψ H ρ ι a w [] []) {Q : Exit → Act → World → Prop}
    (kont : ∀ a' w' ρ' ι', StA E nt φe He ρ' ι' a' w' [] [] → Goes ρ ι w ρ' ι' w' → Q .normal a' w') : wpAnyIn (wideR nt.rd) 0 P .any ops Q 3 listed a w := by
  unfold tail3 at ht
  simp only [Bool.and_eq_true, decide_eq_true_eq] at ht
  obtain ⟨⟨hsize, hshape⟩, hedge⟩ := ht
  split at hshape <;> try cases hshape
  rename_i d ks s1 xi sz d' y p s2 e1 e2 e3
  simp only [Bool.and_eq_true, beq_iff_eq, bne_iff_ne, ne_eq, Bool.not_eq_true'] at hshape
  obtain ⟨⟨⟨rfl, rfl⟩, hds⟩, hdp⟩ := hshape
  have hdp2 : d ∉ p.slots := by simpa using hdp
  obtain ⟨oa, ha⟩ : ∃ o, ops[m]? = some o := ⟨ops[m], Array.getElem?_eq_getElem (by omega)⟩
  obtain ⟨ob, hb⟩ : ∃ o, ops[m + 1]? = some o := ⟨ops[m + 1], Array.getElem?_eq_getElem (by omega)⟩
  obtain ⟨oc, hcc⟩ : ∃ o, ops[m + 2]? = some o := ⟨ops[m + 2], Array.getElem?_eq_getElem (by omega)⟩
  have ca := hget _ _ _ ha e1
  have cb := hget _ _ _ hb e2
  have cc := hget _ _ _ hcc e3
  simp only [chkOper, Bool.and_eq_true, beq_iff_eq] at ca cb cc
  obtain ⟨⟨⟨⟨da, ua⟩, ga⟩, -⟩, pa⟩ := ca
  obtain ⟨⟨⟨⟨db, ub⟩, gb⟩, -⟩, pb⟩ := cb
  obtain ⟨⟨⟨⟨dc, uc⟩, gc⟩, -⟩, pc⟩ := cc
  -- the abstract run
  have hdrop : al.drop m = [⟨some d, none, .ixa ks none (.t s1) xi⟩, ⟨none, none, .st sz (.t d) y⟩, ⟨none, none, .stf p (.t s1)⟩] := by
    apply List.ext_getElem?
    intro i
    rw [List.getElem?_drop]
    match i with
    | 0 => simpa using e1
    | 1 => simpa using e2
    | 2 => simpa using e3
    | i + 3 => rw [List.getElem?_eq_none (by omega)]; rfl
  obtain ⟨φ1, hr1, hr2⟩ := hrun
  rw [hdrop] at hr1
  simp only [runOps, stepO, wantedA] at hr1
  split at hr1 <;> try cases hr1
  rename_i φa Ha hsa0
  split at hsa0 <;> try cases hsa0
  rename_i va φa hsa
  split at hr1 <;> try cases hr1
  rename_i φb Hb hsb0
  split at hsb0 <;> try cases hsb0
  rename_i vb φb hsb
  split at hr1 <;> try cases hr1
  rename_i φc Hc hsc0
  split at hsc0 <;> try cases hsc0
  rename_i vc φc hsc
  obtain ⟨rfl, rfl⟩ := still_same (op := .ixa ks none (.t s1) xi) rfl hsa
  simp only [Fr.put] at hsb hsc hr2
  -- the third
  have hsc2 := hsc
  simp only [stepA] at hsc2
  split at hsc2 <;> try cases hsc2
  rename_i jc offc hpc
  split at hsc2 <;> try cases hsc2
  rename_i uc2 Hc2 hfz
  split at hsc2 <;> try cases hsc2
  rename_i csc hic
  split at hsc2 <;> try cases hsc2
  rename_i hoffc
  obtain ⟨k, rows, i2, n, ds, hmix, hi2, hle, hpl, _, rfl⟩ := frzMix_inv hfz
  -- the second
  have hsb2 := hsb
  simp only [stepA] at hsb2
  split at hsb2 <;> try cases hsb2
  rename_i ib offb hpb
  split at hsb2 <;> try cases hsb2
  rename_i csb hib
  split at hsb2 <;> try cases hsb2
  rename_i hbb
  obtain ⟨hb1, hb2, hb3, hb4⟩ := hbb
  have hms : rd φa (.t s1) = .mix k rows i2 n := by
    rw [rd_take, rd_put (by simpa [AX.slots] using hds)] at hmix
    exact hmix
  -- the first
  have hsa2 := hsa
  simp only [stepA, hms] at hsa2
  split at hsa2 <;> try cases hsa2
  rename_i hkk
  subst hkk
  split at hsa2 <;> try cases hsa2
  rename_i j hj
  split at hsa2 <;> try cases hsa2
  · rename_i r hrow
    simp [rd, ev, V.strip] at hpb
  rename_i hrow
  have hpb2 : i2 = ib ∧ (j - rows.length) * k = offb := by simpa [rd, ev, V.strip] using hpb
  obtain ⟨rfl, rfl⟩ := hpb2
  -- the model's operations
  simp only [chkOp] at pa
  split at pa <;> try cases pa
  rename_i hoa
  simp only [Bool.and_eq_true] at pa
  obtain ⟨ptr, hRp, hrunA⟩ := ixa_facts s pa.1.2 pa.2 pa.1.1 hoa hms hj hrow
  have sA0 := s.value hRp
  obtain ⟨ρ1, sA, gA⟩ := sA0.put (some d) (fun n hn => by cases hn; simpa [chkDst] using ua)
  simp only [Fr.put] at sA
  have pb2 := pb
  simp only [chkOp] at pb2
  split at pb2 <;> try cases pb2
  rename_i hob
  simp only [Bool.and_eq_true] at pb2
  obtain ⟨b1, base1, xs1, hρ1, hcan1, hput1⟩ := st_facts sA pb2.1.2 pb2.2 pb2.1.1 hob hpb hib hb1 hb2 hb4
  have hpc1 : rd ((d, V.ptr i2 ((j - rows.length) * k)) :: φa) p = .ptr jc offc := by rw [rd_take] at hpc; exact hpc
  have hmix1 : rd ((d, V.ptr i2 ((j - rows.length) * k)) :: φa) (.t s1) = .mix k rows i2 n := by rw [rd_take] at hmix; exact hmix
  have hne : jc ≠ i2 := by
    rintro rfl
    rw [List.getElem?_set_self (by simpa using get_some hi2)] at hic
    cases hic
  have pc2 := pc
  simp only [chkOp] at pc2
  split at pc2 <;> try cases pc2
  rename_i hoc
  simp only [Bool.and_eq_true] at pc2
  have hic1 : Ha[jc]? = some (some csc) := by
    rw [List.getElem?_set_ne (fun h => hne h.symm), List.getElem?_set_ne (fun h => hne h.symm)] at hic
    exact hic
  obtain ⟨b2, base2, xs2, hρ2, hcan2, hput2⟩ := stf_facts sA pc2.1.2 pc2.2 pc2.1.1 hoc hpc1 hmix1 hic1 hoffc
  have hbne : b1 ≠ b2 := by
    rintro rfl
    have := sA.sep.one _ _ _ _ _ hρ1 hρ2
    simp at this; exact hne this.symm
  -- in the text's order
  have eva : ∀ (A : Act), (A.put none Go.undef) = A := fun A => rfl
  have hdst1 : ob.dst = none := db
  have hdst2 : oc.dst = none := dc
  obtain ⟨ρ2, ι2, sB0, gB⟩ := runs_skip (op_sound hcall sA _ (.inr rfl) pb hsb) (hput1 w hcan1)
  obtain ⟨ρ3, sB, gB2⟩ := sB0.put none (fun n hn => by cases hn)
  rw [eva] at sB
  have hcan2' := hcan2.set (fun e => hbne e.symm) (b2 := b1) (o2 := base1 + (j - rows.length) * k) xs1
  obtain ⟨ρ4, ι4, sC0, gC⟩ := runs_skip (op_sound hcall sB _ (.inr rfl) pc hsc) (hput2 _ hcan2')
  obtain ⟨ρ5, sC, gC2⟩ := sC0.put none (fun n hn => by cases hn)
  rw [eva] at sC
  have sF := hcongr sC hr2
  have fin := kont _ _ _ _ sF ((((gA.trans gB).trans gB2).trans gC).trans gC2)
  have hcan1' := hcan1.set hbne (b2 := b2) (o2 := base2 + offc) xs2
  have hcomm := setCells_comm hbne xs1 xs2 (base1 + (j - rows.length) * k) (base2 + offc) w
  -- the third, ahead of the first
  have hput2a : (execOp a.eval oc).run P w = .ok .skip (w.setCells b2 (base2 + offc) xs2) := by
    have h0 := hput2 w hcan2
    have ex := eval_put (a := a) pc2.1.2 hdp2 ptr
    have ey := eval_put (a := a) pc2.2 (x := .t s1) (by simpa [AX.slots] using hds) ptr
    simp only [execOp, hoc, ex, ey] at h0 ⊢
    exact h0
  have wa : oa.guard = none := by
    cases hg : oa.guard with
    | none => rfl
    | some q => rw [hg] at ga; simp [chkGuard] at ga
  have wb : ob.guard = none := by
    cases hg : ob.guard with
    | none => rfl
    | some q => rw [hg] at gb; simp [chkGuard] at gb
  have wc : oc.guard = none := by
    cases hg : oc.guard with
    | none => rfl
    | some q => rw [hg] at gc; simp [chkGuard] at gc
  have opA : ∀ (A : Act) (W : World) (K : Act → World → Prop), (execOp A.eval oa).run P W = .ok (.value ptr) W → K (A.put (some d) ptr) W → wpOpIn (wideR nt.rd) 0 P ops Q m K A W := by
    intro A W K h1 h2
    unfold wpOpIn
    rw [ha]
    dsimp only
    rw [if_pos (by simp [Region.wanted, wa])]
    exact wp_value_op nt.rd h1 (by rw [da]; exact h2)
  have opB : ∀ (A : Act) (W W' : World) (K : Act → World → Prop), (execOp A.eval ob).run P W = .ok .skip W' → K A W' → wpOpIn (wideR nt.rd) 0 P ops Q (m + 1) K A W := by
    intro A W W' K h1 h2
    unfold wpOpIn
    rw [hb]
    dsimp only
    rw [if_pos (by simp [Region.wanted, wb])]
    exact wp_skip_op nt.rd h1 (by rw [hdst1]; exact h2)
  have opC : ∀ (A : Act) (W W' : World) (K : Act → World → Prop), (execOp A.eval oc).run P W = .ok .skip W' → K A W' → wpOpIn (wideR nt.rd) 0 P ops Q (m + 2) K A W := by
    intro A W W' K h1 h2
    unfold wpOpIn
    rw [hcc]
    dsimp only
    rw [if_pos (by simp [Region.wanted, wc])]
    exact wp_skip_op nt.rd h1 (by rw [hdst2]; exact h2)
  -- who is ready
  have hs1 : ∀ (L : Array Bool) (x q : Nat), q ≠ x → (L.setIfInBounds x true).getD q false = L.getD q false := fun L x q h => getD_set_ne false (fun e => h e.symm)
  have hs2 : ∀ (L : Array Bool) (x : Nat), x < L.size → (L.setIfInBounds x true).getD x false = true := fun L x h => by simp [h]
  have hwait : ∀ (L : Array Bool), m + 1 ∈ Region.ready .any ops L → L.getD m false = true := by
    intro L h
    obtain ⟨_, o, ho, hall⟩ := mem_ready.1 h
    rw [hb] at hedge
    rw [hb] at ho
    cases ho
    simp only [Option.map_some, Option.getD_some, List.any_eq_true, Bool.and_eq_true, beq_iff_eq] at hedge
    obtain ⟨e, he, hbnd, rfl⟩ := hedge
    exact hall e (by simpa using he) hbnd
  have hdone : ∀ L : Array Bool, L.size = ops.size → (∀ i, i < ops.size → L.getD i false = true) → Region.ready .any ops L = [] := by
    intro L _ h
    refine List.eq_nil_iff_forall_not_mem.2 fun i hi => ?_
    obtain ⟨h1, h2⟩ := ready_un hi
    rw [h i h1] at h2; cases h2
  have hm0 := hu m (Nat.le_refl _)
  have hm1 := hu (m + 1) (by omega)
  have hm2 := hu (m + 2) (by omega)
  have z0 : listed.size = m + 3 := by omega
  refine ⟨fun h0 => ?_, fun i hi => ?_⟩
  · have := ready_least hA (i := m) (by omega) hsz hm0 hl
    rw [h0] at this; cases this
  obtain ⟨hi1, hi2'⟩ := ready_un hi
  have hcase : i = m ∨ i = m + 1 ∨ i = m + 2 := by
    rcases Nat.lt_or_ge i m with h | h
    · rw [hl i h] at hi2'; cases hi2'
    · omega
  rcases hcase with rfl | rfl | rfl
  · -- the first
    refine opA a w _ (hrunA w) ?_
    have l1 : ∀ q, q ≠ i → (listed.setIfInBounds i true).getD q false = listed.getD q false := hs1 listed i
    have l1s : (listed.setIfInBounds i true).getD i false = true := hs2 listed i (by omega)
    refine ⟨fun h0 => ?_, fun x hx => ?_⟩
    · have := ready_least hA (listed := listed.setIfInBounds i true) (i := i + 1) (by omega) (by simpa using hsz) (by rw [l1 _ (by omega)]; exact hm1) (fun q hq => by
        by_cases hqi : q = i
        · rw [hqi]; exact l1s
        · rw [l1 q hqi]; exact hl q (by omega))
      rw [h0] at this; cases this
    obtain ⟨hx1, hx2⟩ := ready_un hx
    have hxc : x = i + 1 ∨ x = i + 2 := by
      rcases Nat.lt_or_ge x i with h | h
      · rw [l1 x (by omega), hl x h] at hx2; cases hx2
      · rcases Nat.eq_or_lt_of_le h with h | h
        · rw [← h, l1s] at hx2; cases hx2
        · omega
    rcases hxc with rfl | rfl
    · refine opB _ _ _ _ (hput1 w hcan1) ?_
      have l2 := hs1 (listed.setIfInBounds i true) (i + 1)
      have l2s := hs2 (listed.setIfInBounds i true) (i + 1) (by simp; omega)
      refine ⟨fun h0 => ?_, fun y hy => ?_⟩
      · have := ready_least hA (listed := (listed.setIfInBounds i true).setIfInBounds (i + 1) true) (i := i + 2) (by omega) (by simpa using hsz) (by rw [l2 _ (by omega), l1 _ (by omega)]; exact hm2) (fun q hq => by
          by_cases hqi : q = i + 1
          · rw [hqi]; exact l2s
          · rw [l2 q hqi]
            by_cases hqi : q = i
            · rw [hqi]; exact l1s
            · rw [l1 q hqi]; exact hl q (by omega))
        rw [h0] at this; cases this
      obtain ⟨hy1, hy2⟩ := ready_un hy
      have hyc : y = i + 2 := by
        rcases Nat.lt_or_ge y i with h | h
        · rw [l2 y (by omega), l1 y (by omega), hl y h] at hy2; cases hy2
        · rcases Nat.eq_or_lt_of_le h with h | h
          · rw [← h, l2 _ (by omega), l1s] at hy2; cases hy2
          · rcases Nat.eq_or_lt_of_le (show i + 1 ≤ y by omega) with h | h
            · rw [← h, l2s] at hy2; cases hy2
            · omega
      subst hyc
      refine opC _ _ _ _ (hput2 _ hcan2') ?_
      refine ⟨hdone _ (by simpa using hsz) (fun q hq => ?_), fin⟩
      by_cases h2 : q = i + 2
      · rw [h2]; exact hs2 _ _ (by simp; omega)
      · rw [hs1 _ _ _ h2]
        by_cases h3 : q = i + 1
        · rw [h3]; exact l2s
        · rw [l2 q h3]
          by_cases h4 : q = i
          · rw [h4]; exact l1s
          · rw [l1 q h4]; exact hl q (by omega)
    · refine opC _ _ _ _ (hput2 w hcan2) ?_
      have l2 := hs1 (listed.setIfInBounds i true) (i + 2)
      have l2s := hs2 (listed.setIfInBounds i true) (i + 2) (by simp; omega)
      refine ⟨fun h0 => ?_, fun y hy => ?_⟩
      · have := ready_least hA (listed := (listed.setIfInBounds i true).setIfInBounds (i + 2) true) (i := i + 1) (by omega) (by simpa using hsz) (by rw [l2 _ (by omega), l1 _ (by omega)]; exact hm1) (fun q hq => by
          rw [l2 q (by omega)]
          by_cases hqi : q = i
          · rw [hqi]; exact l1s
          · rw [l1 q hqi]; exact hl q (by omega))
        rw [h0] at this; cases this
      obtain ⟨hy1, hy2⟩ := ready_un hy
      have hyc : y = i + 1 := by
        rcases Nat.lt_or_ge y i with h | h
        · rw [l2 y (by omega), l1 y (by omega), hl y h] at hy2; cases hy2
        · rcases Nat.eq_or_lt_of_le h with h | h
          · rw [← h, l2 _ (by omega), l1s] at hy2; cases hy2
          · by_cases h5 : y = i + 2
            · rw [h5, l2s] at hy2; cases hy2
            · omega
      subst hyc
      refine opB _ _ _ _ (hput1 _ hcan1') ?_
      refine ⟨hdone _ (by simpa using hsz) (fun q hq => ?_), by rw [← hcomm]; exact fin⟩
      by_cases h2 : q = i + 1
      · rw [h2]; exact hs2 _ _ (by simp; omega)
      · rw [hs1 _ _ _ h2]
        by_cases h3 : q = i + 2
        · rw [h3]; exact l2s
        · rw [l2 q h3]
          by_cases h4 : q = i
          · rw [h4]; exact l1s
          · rw [l1 q h4]; exact hl q (by omega)
  · rw [hwait _ hi] at hm0; cases hm0
  · refine opC _ _ _ _ hput2a ?_
    have l1 : ∀ q, q ≠ m + 2 → (listed.setIfInBounds (m + 2) true).getD q false = listed.getD q false := hs1 listed (m + 2)
    have l1s : (listed.setIfInBounds (m + 2) true).getD (m + 2) false = true := hs2 listed (m + 2) (by omega)
    refine ⟨fun h0 => ?_, fun x hx => ?_⟩
    · have := ready_least hA (listed := listed.setIfInBounds (m + 2) true) (i := m) (by omega) (by simpa using hsz) (by rw [l1 _ (by omega)]; exact hm0) (fun q hq => by
        rw [l1 q (by omega)]; exact hl q hq)
      rw [h0] at this; cases this
    obtain ⟨hx1, hx2⟩ := ready_un hx
    have hxc : x = m := by
      rcases Nat.lt_or_ge x m with h | h
      · rw [l1 x (by omega), hl x h] at hx2; cases hx2
      · by_cases h5 : x = m + 2
        · rw [h5, l1s] at hx2; cases hx2
        · by_cases h6 : x = m + 1
          · subst h6
            have := hwait _ hx
            rw [l1 _ (by omega), hm0] at this; cases this
          · omega
    subst hxc
    refine opA _ _ _ (hrunA _) ?_
    have l2 := hs1 (listed.setIfInBounds (x + 2) true) x
    have l2s := hs2 (listed.setIfInBounds (x + 2) true) x (by simp; omega)
    refine ⟨fun h0 => ?_, fun y hy => ?_⟩
    · have := ready_least hA (listed := (listed.setIfInBounds (x + 2) true).setIfInBounds x true) (i := x + 1) (by omega) (by simpa using hsz) (by rw [l2 _ (by omega), l1 _ (by omega)]; exact hm1) (fun q hq => by
        by_cases hqi : q = x
        · rw [hqi]; exact l2s
        · rw [l2 q hqi, l1 q (by omega)]; exact hl q (by omega))
      rw [h0] at this; cases this
    obtain ⟨hy1, hy2⟩ := ready_un hy
    have hyc : y = x + 1 := by
      rcases Nat.lt_or_ge y x with h | h
      · rw [l2 y (by omega), l1 y (by omega), hl y h] at hy2; cases hy2
      · rcases Nat.eq_or_lt_of_le h with h | h
        · rw [← h, l2s] at hy2; cases hy2
        · by_cases h5 : y = x + 2
          · rw [h5, l2 _ (by omega), l1s] at hy2; cases hy2
          · omega
    subst hyc
    refine opB _ _ _ _ (hput1 _ hcan1') ?_
    refine ⟨hdone _ (by simpa using hsz) (fun q hq => ?_), by rw [← hcomm]; exact fin⟩
    by_cases h2 : q = x + 1
    · rw [h2]; exact hs2 _ _ (by simp; omega)
    · rw [hs1 _ _ _ h2]
      by_cases h3 : q = x
      · rw [h3]; exact l2s
      · rw [l2 q h3]
        by_cases h4 : q = x + 2
        · rw [h4]; exact l1s
        · rw [l1 q h4]; exact hl q (by omega)

end
end Go.AM
