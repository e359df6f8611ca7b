/-
  Operations that are independent may change places: what one operation looks at and what it turns; swapping two neighbours; bringing one to the front.
-/
import Derived.Test.YtbgblfbbeamleaaGreatDoorAm
namespace Go.AM
set_option linter.unusedVariables false
set_option linter.unusedSimpArgs false

section
variable {φ ψ : Fr} {H K : Heap} {call : CallF}

theorem strip_strip (v : V) : v.strip.strip = v.strip := by cases v <;> rfl

theorem get_put_ne {φ : Fr} {d : Option Nat} {v : V} {s : Nat} (h : d ≠ some s) : Fr.get (Fr.put φ d v) s = Fr.get φ s := by
  cases d with
  | none => rfl
  | some n =>
    simp only [Fr.put, Fr.get]
    rw [if_neg (by rintro rfl; exact h rfl)]

theorem get_put_eq {φ : Fr} {v : V} {s : Nat} : Fr.get (Fr.put φ (some s) v) s = v := by simp [Fr.put, Fr.get]

/-! ### Taking -/

theorem takeX_val (x : AX) : (takeX φ x).1 = ev φ x := by
  cases x with
  | c v => rfl
  | t s =>
    simp only [takeX, ev]
    split <;> simp_all

theorem takeX_get (x : AX) (q : Nat) : Fr.get (takeX φ x).2 q = if q ∈ x.slots then (Fr.get φ q).strip else Fr.get φ q := by
  cases x with
  | c v => simp [takeX, AX.slots]
  | t s =>
    simp only [takeX, AX.slots, List.mem_singleton]
    split
    · rename_i k r h
      simp only [Fr.get]
      by_cases hq : q = s
      · subst hq; simp [h, V.strip]
      · simp [hq]
    · rename_i k h
      simp only [Fr.get]
      by_cases hq : q = s
      · subst hq; simp [h, V.strip]
      · simp [hq]
    · rename_i h h'
      dsimp only
      by_cases hq : q = s
      · subst hq
        rw [if_pos rfl]
        generalize Fr.get φ q = u at h h'
        cases u <;> first | rfl | exact absurd rfl (h _ _) | exact absurd rfl (h' _)
      · rw [if_neg hq]

theorem rd_strip {φ ψ : Fr} {x : AX} (h : ∀ q ∈ x.slots, (Fr.get φ q).strip = (Fr.get ψ q).strip) : rd φ x = rd ψ x := by
  cases x with
  | c v => rfl
  | t n => exact h n (by simp [AX.slots])

theorem ev_same {φ ψ : Fr} {x : AX} (h : ∀ q ∈ x.slots, Fr.get φ q = Fr.get ψ q) : ev φ x = ev ψ x := by
  cases x with
  | c v => rfl
  | t n => exact h n (by simp [AX.slots])

theorem rd_take (s x : AX) : rd (takeX φ s).2 x = rd φ x := rd_strip fun q _ => by
  rw [takeX_get]
  split
  · exact strip_strip _
  · rfl

theorem takeAll_loc : ∀ {xs : List AX} {φ ψ : Fr}, (∀ q ∈ xs.flatMap AX.slots, Fr.get φ q = Fr.get ψ q) → (takeAll φ xs).1 = (takeAll ψ xs).1 ∧ ∀ q, Fr.get (takeAll φ xs).2 q = if q ∈ xs.flatMap AX.slots then (Fr.get φ q).strip else Fr.get φ q
  | [], φ, ψ, _ => ⟨rfl, fun q => by simp [takeAll]⟩
  | x :: xs, φ, ψ, h => by
    have hx : ∀ q ∈ x.slots, Fr.get φ q = Fr.get ψ q := fun q hq => h q (by simp [hq])
    have ih := takeAll_loc (xs := xs) (φ := (takeX φ x).2) (ψ := (takeX ψ x).2) (fun q hq => by
      rw [takeX_get, takeX_get, h q (by simp only [List.flatMap_cons, List.mem_append]; exact .inr hq)])
    refine ⟨?_, fun q => ?_⟩
    · simp only [takeAll]
      rw [ih.1, takeX_val, takeX_val, ev_same hx]
    · simp only [takeAll]
      rw [ih.2 q, takeX_get]
      simp only [List.flatMap_cons, List.mem_append]
      by_cases h1 : q ∈ x.slots <;> by_cases h2 : q ∈ xs.flatMap AX.slots <;> simp [h1, h2, strip_strip]

/-! ### Reading the memory -/

structure RdOK (H K : Heap) : Prop where
  ld : ∀ agg p v, load H agg p = some v → load K agg p = some v
  rows : ∀ k v r, rowsOf H k v = some r → rowsOf K k v = some r
  maps : ∀ ag kinds v r, mapOf H ag kinds v = some r → mapOf K ag kinds v = some r

theorem RdOK.refl (H : Heap) : RdOK H H := ⟨fun _ _ _ h => h, fun _ _ _ h => h, fun _ _ _ _ h => h⟩

theorem RdOK.push (H L : Heap) : RdOK H (H ++ L) := by
  have key : ∀ (i : Nat) (c : Option (List V)), H[i]? = some c → (H ++ L)[i]? = some c := by
    intro i c h
    have : i < H.length := by
      rcases Nat.lt_or_ge i H.length with h1 | h1
      · exact h1
      · rw [List.getElem?_eq_none h1] at h; cases h
    rw [List.getElem?_append_left this]; exact h
  refine ⟨fun agg p v h => ?_, fun k v r h => ?_, fun ag kinds v r h => ?_⟩
  rotate_left 2
  · unfold mapOf at h ⊢
    cases v <;> simp only [reduceCtorEq] at h ⊢
    · split at h
      · rename_i h1; rw [key _ _ h1]; exact h
      · cases h
    · exact h
  · unfold load at h ⊢
    cases p <;> simp only [reduceCtorEq] at h ⊢
    · split at h
      · rename_i h1; rw [key _ _ h1]; exact h
      · cases h
    · exact h
  · unfold rowsOf at h ⊢
    cases v <;> simp only [reduceCtorEq] at h ⊢ <;> try exact h
    · split at h
      · rename_i h1; rw [key _ _ h1]; exact h
      · cases h
    · split at h
      · rename_i h1; rw [key _ _ h1]; exact h
      · cases h

theorem loadFrom_strip {agg : Option Nat} {cs ds : List V} (h : cs.map V.strip = ds.map V.strip) (off : Nat) : loadFrom agg cs off = loadFrom agg ds off := by
  have hl : cs.length = ds.length := by have := congrArg List.length h; simpa using this
  unfold loadFrom
  cases agg with
  | none =>
    have := congrArg (fun l => l[off]?) h
    simpa using this
  | some n =>
    simp only [hl, allStrip]
    rw [List.map_take, List.map_drop, List.map_take, List.map_drop, h]

theorem RdOK.strip {i : Nat} {cs ds : List V} (hi : H[i]? = some (some cs)) (h : cs.map V.strip = ds.map V.strip) : RdOK H (H.set i (some ds)) := by
  have hl : cs.length = ds.length := by have := congrArg List.length h; simpa using this
  have hlt : i < H.length := by
    rcases Nat.lt_or_ge i H.length with h1 | h1
    · exact h1
    · rw [List.getElem?_eq_none h1] at hi; cases hi
  refine ⟨fun agg p v hv => ?_, fun k v r hv => ?_, fun ag kinds v r hv => ?_⟩
  rotate_left 2
  · unfold mapOf at hv ⊢
    cases v <;> simp only [reduceCtorEq] at hv ⊢
    · rename_i j
      by_cases hj : j = i
      · subst hj
        rw [List.getElem?_set_self hlt]
        rw [hi] at hv
        split at hv <;> try cases hv
        rename_i ag' kinds' ks vs e
        simp only [Option.some.injEq] at e
        subst e
        match ds, h with
        | [d], h =>
          simp only [List.map_cons, List.map_nil, V.strip, List.cons.injEq, and_true] at h
          cases d <;> simp only [V.strip, reduceCtorEq] at h
          cases h
          exact hv
        | [], h => cases h
        | _ :: _ :: _, h => simp at h
      · rw [List.getElem?_set_ne (by omega)]; exact hv
    · exact hv
  · unfold load at hv ⊢
    cases p <;> simp only [reduceCtorEq] at hv ⊢
    · rename_i j off
      by_cases hj : j = i
      · subst hj
        rw [List.getElem?_set_self hlt]
        rw [hi] at hv
        dsimp only at hv ⊢
        rw [← loadFrom_strip h]; exact hv
      · rw [List.getElem?_set_ne (by omega)]; exact hv
    · exact hv
  · unfold rowsOf at hv ⊢
    cases v <;> simp only [reduceCtorEq] at hv ⊢ <;> try exact hv
    · rename_i j off len cap
      by_cases hj : j = i
      · subst hj
        rw [List.getElem?_set_self hlt]
        rw [hi] at hv
        dsimp only at hv ⊢
        rw [← hl, ← h]; exact hv
      · rw [List.getElem?_set_ne (by omega)]; exact hv
    · rename_i k' j off len cap
      by_cases hj : j = i
      · subst hj
        rw [List.getElem?_set_self hlt]
        rw [hi] at hv
        dsimp only at hv ⊢
        rw [← hl, ← h]; exact hv
      · rw [List.getElem?_set_ne (by omega)]; exact hv

theorem set_strip {cs : List V} {off k : Nat} {r : List (List V)} (h : cs[off]? = some (.own k r)) : cs.map V.strip = (cs.set off (.sl k r)).map V.strip := by
  apply List.ext_getElem?
  intro j
  simp only [List.getElem?_map, List.getElem?_set]
  by_cases hj : off = j
  · subst hj
    have : off < cs.length := by
      rcases Nat.lt_or_ge off cs.length with h1 | h1
      · exact h1
      · rw [List.getElem?_eq_none h1] at h; cases h
    rw [h, if_pos rfl, if_pos this]
    rfl
  · simp [hj]

/-! ### What one operation looks at and what it turns -/

def ActOK (c : HC) (H : Heap) (act : Heap → Heap) : Prop :=
  act = id ∨ match c with
    | .pu | .rd => False
    | .al => ∃ L, act = fun K => K ++ L
    | .lo => ∃ i cs off k r, H[i]? = some (some cs) ∧ cs[off]? = some (.own k r) ∧ act = fun K => K.set i (some (cs.set off (.sl k r)))
    | .wr => True
    | .lk => False

def hok : HC → Heap → Heap → Prop
  | .pu, _, _ => True
  | .rd, H, K => RdOK H K
  | .lo, H, K => ∀ (i : Nat) (c : Option (List V)), H[i]? = some c → K[i]? = some c
  | .al, H, K => K.length = H.length ∧ RdOK H K
  | .wr, H, K => K = H
  | .lk, H, K => K = H

theorem hok.refl (c : HC) (H : Heap) : hok c H H := by
  cases c with
  | pu => exact trivial
  | rd => exact RdOK.refl _
  | lo => exact fun _ _ h => h
  | al => exact ⟨rfl, RdOK.refl _⟩
  | wr => exact rfl
  | lk => exact rfl

def upd (φ : Fr) (T : List Nat) (q : Nat) : V := if q ∈ T then (Fr.get φ q).strip else Fr.get φ q

theorem index_cong {x : AX} (h : rd φ x = rd ψ x) (n : Nat) : index φ x n = index ψ x n := by simp only [index, h]
theorem bound_cong {x : AX} (h : rd φ x = rd ψ x) (n : Nat) : bound φ x n = bound ψ x n := by simp only [bound, h]
theorem optBound_cong {x : Option AX} (h : ∀ y ∈ x.toList, rd φ y = rd ψ y) (d n : Nat) : optBound φ x d n = optBound ψ x d n := by
  cases x with
  | none => rfl
  | some y => exact bound_cong (h y (by simp)) n
theorem rdp_cong {x : AX} (h : rd φ x = rd ψ x) : rdp φ x = rdp ψ x := by
  unfold rdp
  split
  · rfl
  · exact h
theorem partsOf_cong : ∀ {ps : List (Nat × Nat × AX)}, (∀ x ∈ ps.map fun p => p.2.2, rd φ x = rd ψ x) → partsOf φ ps = partsOf ψ ps
  | [], _ => rfl
  | (a, b, x) :: ps, h => by
    have h1 := rdp_cong (h x (by simp))
    have h2 := partsOf_cong (ps := ps) (fun y hy => h y (by simp only [List.map_cons, List.mem_cons]; exact .inr hy))
    simp only [partsOf, h1, h2]
theorem map_cong : ∀ {xs : List AX}, (∀ x ∈ xs, rd φ x = rd ψ x) → xs.map (rd φ) = xs.map (rd ψ)
  | [], _ => rfl
  | x :: xs, h => by simp only [List.map_cons, h x (by simp), map_cong (xs := xs) (fun y hy => h y (by simp [hy]))]

/-- Operations that take nothing and turn nothing. -/
def AOp.still (op : AOp) : Bool := match op with
  | .tk _ | .ldo _ | .app .. | .box _ | .alloc _ | .allocb .. | .mkm .. | .mst .. | .mk .. | .bsl _ _ _ _ true | .apz .. | .st .. | .stf .. | .tkf _ | .cpy .. | .clr .. | .frz .. | .call .. | .callv .. | .callx .. | .stq .. | .ldoq .. | .callh .. | .callvh .. | .stw .. | .apm .. | .ldf .. | .tkz _ | .callk .. | .callvk .. | .callb .. | .callr .. | .mne .. | .mes .. | .ldm _ => false
  | _ => true

theorem still_same {op : AOp} (hc : op.still = true) {v : V} {φ' : Fr} {H' : Heap} (h : stepA call φ H op = some (v, φ', H')) : φ' = φ ∧ H' = H := by
  cases op <;> simp only [AOp.still, Bool.false_eq_true] at hc <;> simp only [stepA] at h <;> (repeat' (split at h)) <;>
    first
      | (simp only [Option.some.injEq, Prod.mk.injEq] at h; exact ⟨h.2.1.symm, h.2.2.symm⟩)
      | (simp only [Option.map_eq_some_iff, Prod.mk.injEq] at h; obtain ⟨_, _, _, h1, h2⟩ := h; exact ⟨h1.symm, h2.symm⟩)
      | (cases h; done)
      | (simp_all; done)

theorem still_takes {op : AOp} (hc : op.still = true) : op.takes = [] := by
  cases op <;> simp only [AOp.still, Bool.false_eq_true] at hc <;> rfl

theorem pure_cong {op : AOp} (hs : op.still = true) (hc : op.hc = .pu) (hr : ∀ x ∈ op.args, rd φ x = rd ψ x) : (stepA call φ H op).map (fun r => r.1) = (stepA call ψ K op).map (fun r => r.1) := by
  cases op with
  | mv x => simp only [stepA, hr x (by simp [AOp.args]), Option.map_some]
  | cs x => simp only [stepA, hr x (by simp [AOp.args])]; split <;> rfl
  | pick a b c => simp only [stepA, hr a (by simp [AOp.args]), hr b (by simp [AOp.args]), hr c (by simp [AOp.args])]; split <;> rfl
  | ia _ _ x y => simp only [stepA, hr x (by simp [AOp.args]), hr y (by simp [AOp.args])]; (repeat' split) <;> first | rfl | (simp [Function.comp_def])
  | ic _ x y => simp only [stepA, hr x (by simp [AOp.args]), hr y (by simp [AOp.args])]; (repeat' split) <;> first | rfl | (simp [Function.comp_def])
  | sop _ x y => simp only [stepA, hr x (by simp [AOp.args]), hr y (by simp [AOp.args])]; (repeat' split) <;> first | rfl | (simp [Function.comp_def])
  | isn _ x => simp only [stepA, hr x (by simp [AOp.args])]; (repeat' split) <;> rfl
  | isp _ x => simp only [stepA, hr x (by simp [AOp.args])]; (repeat' split) <;> rfl
  | eqb _ x y => simp only [stepA, hr x (by simp [AOp.args]), hr y (by simp [AOp.args])]; (repeat' split) <;> first | rfl | (simp [Function.comp_def])
  | eqa _ _ x y => simp only [stepA, hr x (by simp [AOp.args]), hr y (by simp [AOp.args])]; (repeat' split) <;> first | rfl | (simp [Function.comp_def])
  | notb x => simp only [stepA, hr x (by simp [AOp.args])]; (repeat' split) <;> rfl
  | neg _ x => simp only [stepA, hr x (by simp [AOp.args])]; (repeat' split) <;> rfl
  | cpl _ x => simp only [stepA, hr x (by simp [AOp.args])]; (repeat' split) <;> first | rfl | (simp [Function.comp_def])
  | conv _ x => simp only [stepA, hr x (by simp [AOp.args])]; (repeat' split) <;> rfl
  | s2b x => simp only [stepA, hr x (by simp [AOp.args])]; (repeat' split) <;> rfl
  | i2s x => simp only [stepA, hr x (by simp [AOp.args])]; (repeat' split) <;> rfl
  | bld _ ps => simp only [stepA, partsOf_cong (ps := ps) hr]; (repeat' split) <;> rfl
  | bsl _ _ _ ps m =>
    cases m with
    | true => cases hs
    | false => simp only [stepA, partsOf_cong (ps := ps) hr, Bool.false_eq_true, if_false]; (repeat' split) <;> rfl
  | nck x => simp only [stepA, hr x (by simp [AOp.args])]; (repeat' split) <;> rfl
  | mkz _ _ _ x y => simp only [stepA, hr x (by simp [AOp.args]), hr y (by simp [AOp.args])]; (repeat' split) <;> rfl
  | fa _ x => simp only [stepA, hr x (by simp [AOp.args])]; (repeat' split) <;> rfl
  | ixa _ n x i => simp only [stepA, hr x (by simp [AOp.args]), index_cong (hr i (by simp [AOp.args]))]; (repeat' split) <;> first | rfl | (simp [Function.comp_def])
  | fld _ _ x => simp only [stepA, hr x (by simp [AOp.args])]; (repeat' split) <;> first | rfl | (simp [Function.comp_def])
  | ixs x i => simp only [stepA, hr x (by simp [AOp.args]), index_cong (hr i (by simp [AOp.args]))]; (repeat' split) <;> rfl
  | ixv _ _ _ x i => simp only [stepA, hr x (by simp [AOp.args]), index_cong (hr i (by simp [AOp.args]))]; (repeat' split) <;> first | rfl | (simp [Function.comp_def])
  | slc x lo hi =>
    have h1 := hr x (by simp [AOp.args])
    have h2 := optBound_cong (x := lo) (fun y hy => hr y (by simp only [AOp.args, List.mem_cons, List.mem_append]; exact .inr (.inl hy)))
    have h3 := optBound_cong (x := hi) (fun y hy => hr y (by simp only [AOp.args, List.mem_cons, List.mem_append]; exact .inr (.inr hy)))
    simp only [stepA, h1, h2, h3]; (repeat' split) <;> rfl
  | sls _ x lo hi m =>
    have h1 := hr x (by simp [AOp.args])
    have h2 := optBound_cong (x := lo) (fun y hy => hr y (by simp only [AOp.args, List.mem_cons, List.mem_append]; exact .inr (.inl (.inl hy))))
    have h3 := optBound_cong (x := hi) (fun y hy => hr y (by simp only [AOp.args, List.mem_cons, List.mem_append]; exact .inr (.inl (.inr hy))))
    have h4 := optBound_cong (x := m) (fun y hy => hr y (by simp only [AOp.args, List.mem_cons, List.mem_append]; exact .inr (.inr hy)))
    simp only [stepA, h1, h2, h3, h4]; (repeat' split) <;> rfl
  | slp _ _ x lo hi m =>
    have h1 := hr x (by simp [AOp.args])
    have h2 := optBound_cong (x := lo) (fun y hy => hr y (by simp only [AOp.args, List.mem_cons, List.mem_append]; exact .inr (.inl (.inl hy))))
    have h3 := optBound_cong (x := hi) (fun y hy => hr y (by simp only [AOp.args, List.mem_cons, List.mem_append]; exact .inr (.inl (.inr hy))))
    have h4 := optBound_cong (x := m) (fun y hy => hr y (by simp only [AOp.args, List.mem_cons, List.mem_append]; exact .inr (.inr hy)))
    simp only [stepA, h1, h2, h3, h4]; (repeat' split) <;> rfl
  | ext x _ => simp only [stepA, hr x (by simp [AOp.args])]; (repeat' split) <;> first | rfl | (simp [Function.comp_def])
  | len _ x => simp only [stepA, hr x (by simp [AOp.args])]; (repeat' split) <;> rfl
  | lena _ => rfl
  | mlk => cases hc
  | mx _ xs => simp only [stepA, map_cong (xs := xs) hr]; (repeat' split) <;> rfl
  | callc f xs => simp only [stepA, map_cong (xs := xs) hr]; simp [Function.comp_def]
  | callck f xs => simp only [stepA, map_cong (xs := xs) hr]; simp [Function.comp_def]
  | callvc x xs =>
    have h1 := hr x (by simp [AOp.args])
    have h2 := map_cong (xs := xs) (fun y hy => hr y (by simp [AOp.args, hy]))
    simp only [stepA, h1, h2]; split <;> first | rfl | (simp [Function.comp_def])
  | mkf f xs ys =>
    have h1 := map_cong (xs := xs) (fun y hy => hr y (by simp only [AOp.args, List.mem_append]; exact .inl hy))
    have h2 := map_cong (xs := ys) (fun y hy => hr y (by simp only [AOp.args, List.mem_append]; exact .inr hy))
    simp only [stepA, h1, h2, Option.map_some]
  | app _ _ _ _ m => cases hs
  | ld => cases hc
  | ldq => cases hc
  | b2s => cases hc
  | _ => cases hs

/-- What is known of a step: its value, what it takes, what it does to the memory; and that another frame that agrees answers the same. -/
def Loc (call : CallF) (op : AOp) (φ : Fr) (H : Heap) (v : V) (H1 : Heap) : Prop :=
  ∃ act : Heap → Heap, H1 = act H ∧ ActOK op.hc H act ∧ ∀ ψ K, (∀ x ∈ op.args, rd φ x = rd ψ x) → (∀ q ∈ op.takes, Fr.get φ q = Fr.get ψ q) → hok op.hc H K →
    ∃ ψ1, stepA call ψ K op = some (v, ψ1, act K) ∧ ∀ q, Fr.get ψ1 q = upd ψ op.takes q

theorem step_loc {op : AOp} {v : V} {φ1 : Fr} {H1 : Heap} (h : stepA call φ H op = some (v, φ1, H1)) : Loc call op φ H v H1 := by
  by_cases hs : op.still = true
  · obtain ⟨rfl, rfl⟩ := still_same hs h
    refine ⟨id, rfl, .inl rfl, fun ψ K hr ht hk => ?_⟩
    have fin : ∀ r, stepA call ψ K op = some r → r.1 = v → ∃ ψ1, stepA call ψ K op = some (v, ψ1, id K) ∧ ∀ q, Fr.get ψ1 q = upd ψ op.takes q := by
      rintro ⟨v', ψ', K'⟩ h1 rfl
      obtain ⟨rfl, rfl⟩ := still_same hs h1
      exact ⟨_, h1, fun q => by simp [upd, still_takes hs]⟩
    by_cases hc : op.hc = .pu
    · have h2 := pure_cong (H := H1) (K := K) (call := call) hs hc hr
      rw [h] at h2
      simp only [Option.map_some] at h2
      have h3 := h2.symm
      rw [Option.map_eq_some_iff] at h3
      obtain ⟨r, h4, h5⟩ := h3
      exact fin r h4 h5
    · cases op <;> simp only [AOp.still, Bool.false_eq_true] at hs <;> try exact absurd rfl hc
      · rename_i x
        have e := hr x (by simp [AOp.args])
        simp only [stepA] at h
        split at h <;> try cases h
        rename_i hne
        split at h <;> try cases h
        rename_i r hrow
        simp only [Option.map_eq_some_iff, Prod.mk.injEq] at h
        obtain ⟨s, h1, rfl, _, _⟩ := h
        refine fin (.str s, ψ, K) ?_ rfl
        simp only [stepA, ← e]
        have h2 := RdOK.rows hk _ _ _ hrow
        clear e hr hrow
        revert hne h2
        generalize rd φ1 x = u
        intro hne h2
        cases u <;> first
          | exact absurd rfl (hne _)
          | (simp only [h2]; simp [h1])
      · rename_i m
        cases m with
        | true => cases hs
        | false => exact absurd rfl hc
      · rename_i agg p
        have e := hr p (by simp [AOp.args])
        simp only [stepA, Option.map_eq_some_iff, Prod.mk.injEq] at h
        obtain ⟨u, h1, rfl, _, _⟩ := h
        refine fin (u, ψ, K) ?_ rfl
        have h2 := RdOK.ld hk _ _ _ h1
        simp only [stepA, ← e, h2, Option.map_some]
      · rename_i agg p r
        have e := hr p (by simp [AOp.args])
        have e' := hr r (by simp [AOp.args])
        simp only [stepA] at h
        split at h <;> try cases h
        rename_i i off j off' e1 e2
        split at h <;> try cases h
        rename_i hij
        simp only [Option.map_eq_some_iff, Prod.mk.injEq] at h
        obtain ⟨u, h1, rfl, _, _⟩ := h
        refine fin (u, ψ, K) ?_ rfl
        have h2 := RdOK.ld hk _ _ _ h1
        simp only [stepA, ← e, ← e', e1, e2, if_pos hij, h2, Option.map_some]
      · rename_i ok zero ag kinds x k
        have e := hr x (by simp [AOp.args])
        have e' := hr k (by simp [AOp.args])
        simp only [stepA] at h
        split at h <;> try cases h
        rename_i m hm
        split at h <;> try cases h
        rename_i hw
        simp only [Option.map_eq_some_iff, Prod.mk.injEq] at h
        obtain ⟨u, h1, rfl, _, _⟩ := h
        refine fin (u, ψ, K) ?_ rfl
        have h2 := RdOK.maps hk _ _ _ _ hm
        simp only [stepA, ← e, ← e', h2, if_pos hw, h1, Option.map_some]
  · cases op <;> simp only [AOp.still, Bool.false_eq_true, not_true, not_false_eq_true] at hs
    · -- tk
      rename_i x
      simp only [stepA, Option.some.injEq, Prod.mk.injEq] at h
      obtain ⟨rfl, rfl, rfl⟩ := h
      refine ⟨id, rfl, .inl rfl, fun ψ K hr ht hk => ⟨(takeX ψ x).2, ?_, fun q => takeX_get x q⟩⟩
      simp only [stepA, takeX_val, id]
      rw [ev_same (fun q hq => ht q hq)]
    · -- frz
      rename_i k x
      refine ⟨fun _ => H1, rfl, .inr trivial, fun ψ K hr ht hk => ?_⟩
      obtain rfl : K = H := hk
      have e := hr x (by simp [AOp.args])
      simp only [stepA, e] at h ⊢
      split at h
      · split at h <;> try cases h
        split at h <;> try cases h
        exact ⟨ψ, by simp_all, fun q => by simp [upd, AOp.takes]⟩
      · simp only [Option.some.injEq, Prod.mk.injEq] at h
        obtain ⟨rfl, rfl, rfl⟩ := h
        exact ⟨ψ, by simp_all, fun q => by simp [upd, AOp.takes]⟩
      · cases h
    · -- box
      rename_i x
      simp only [stepA] at h
      split at h
      · cases h
      · rename_i hu
        simp only [Option.some.injEq, Prod.mk.injEq] at h
        obtain ⟨rfl, rfl, rfl⟩ := h
        refine ⟨fun K => K ++ [some (takeX φ x).1.cells], rfl, .inr ⟨_, rfl⟩, fun ψ K hr ht hk => ⟨(takeX ψ x).2, ?_, fun q => takeX_get x q⟩⟩
        have e : (takeX ψ x).1 = (takeX φ x).1 := by rw [takeX_val, takeX_val, ev_same (fun q hq => ht q hq)]
        simp only [stepA, e, hu, hk.1]
        simp
    · -- alloc
      rename_i zero
      simp only [stepA, Option.some.injEq, Prod.mk.injEq] at h
      obtain ⟨rfl, rfl, rfl⟩ := h
      exact ⟨fun K => K ++ [some zero], rfl, .inr ⟨_, rfl⟩, fun ψ K hr ht hk => ⟨ψ, by simp only [stepA, hk.1], fun q => by simp [upd, AOp.takes]⟩⟩
    · -- bsl
      rename_i k zero n ps m
      cases m with
      | false => exact absurd rfl hs
      | true =>
        simp only [stepA, if_true] at h
        split at h <;> try cases h
        rename_i qs hq
        split at h <;> try cases h
        rename_i hh
        refine ⟨fun K => K ++ [some (overlay (List.replicate n zero).flatten qs)], rfl, .inr ⟨_, rfl⟩, fun ψ K hr ht hk => ⟨ψ, ?_, fun q => by simp [upd, AOp.takes]⟩⟩
        have e := partsOf_cong (ps := ps) (φ := φ) (ψ := ψ) hr
        simp only [stepA, ← e, hq, if_true, hk.1]
        rw [if_pos hh]
    · -- mk
      rename_i k zero bytes l c
      simp only [stepA] at h
      split at h <;> try cases h
      rename_i ka ma kb mb e1 e2
      split at h <;> try cases h
      rename_i hh
      refine ⟨fun K => K ++ [some (List.replicate mb.toNat zero).flatten], rfl, .inr ⟨_, rfl⟩, fun ψ K hr ht hk => ⟨ψ, ?_, fun q => by simp [upd, AOp.takes]⟩⟩
      have e3 := hr l (by simp [AOp.args])
      have e4 := hr c (by simp [AOp.args])
      simp only [stepA, ← e3, ← e4, e1, e2, hk.1]
      rw [if_pos hh]
    · -- ldo
      rename_i p
      have key : ∀ (ψ : Fr) (K : Heap), (∀ x ∈ (AOp.ldo p).args, rd φ x = rd ψ x) → rd ψ p = rd φ p := fun ψ K hr => (hr p (by simp [AOp.args])).symm
      simp only [stepA] at h
      split at h <;> try cases h
      rename_i i off ep
      split at h <;> try cases h
      rename_i cs hi
      split at h <;> try cases h
      · rename_i k r hc
        refine ⟨fun K => K.set i (some (cs.set off (.sl k r))), rfl, .inr ⟨i, cs, off, k, r, hi, hc, rfl⟩, fun ψ K hr ht hk => ⟨ψ, ?_, fun q => by simp [upd, AOp.takes]⟩⟩
        simp only [stepA, key ψ K hr, ep, hk _ _ hi, hc]
      · rename_i k hc
        refine ⟨id, rfl, .inl rfl, fun ψ K hr ht hk => ⟨ψ, ?_, fun q => by simp [upd, AOp.takes]⟩⟩
        simp only [stepA, key ψ K hr, ep, hk _ _ hi, hc, id]
      · rename_i hne hne' hc
        refine ⟨id, rfl, .inl rfl, fun ψ K hr ht hk => ⟨ψ, ?_, fun q => by simp [upd, AOp.takes]⟩⟩
        simp only [stepA, key ψ K hr, ep, hk _ _ hi, hc, id]
    · -- st
      rename_i n p x
      refine ⟨fun _ => H1, rfl, .inr trivial, fun ψ K hr ht hk => ?_⟩
      obtain rfl : K = H := hk
      have e := hr p (by simp [AOp.args])
      have e2 : (takeX ψ x).1 = (takeX φ x).1 := by rw [takeX_val, takeX_val, ev_same (fun q hq => ht q hq)]
      refine ⟨(takeX ψ x).2, ?_, fun q => takeX_get x q⟩
      simp only [stepA, ← e, e2] at h ⊢
      split at h <;> try cases h
      split at h <;> try cases h
      split at h <;> try cases h
      simp_all
    · -- app
      rename_i k bytes s x m
      have hx : ∀ (ψ : Fr) (K : Heap), (∀ y ∈ (AOp.app k bytes s x m).args, rd φ y = rd ψ y) → rd (takeX ψ s).2 x = rd (takeX φ s).2 x := fun ψ K hr => by
        rw [rd_take, rd_take]; exact (hr x (by simp [AOp.args])).symm
      have hsv : ∀ ψ : Fr, (∀ q ∈ (AOp.app k bytes s x m).takes, Fr.get φ q = Fr.get ψ q) → takeX ψ s = ((takeX φ s).1, (takeX ψ s).2) := fun ψ ht => by
        have : (takeX ψ s).1 = (takeX φ s).1 := by rw [takeX_val, takeX_val, ev_same (fun q hq => ht q hq)]
        rw [← this]
      simp only [stepA] at h
      split at h <;> try cases h
      rename_i k' rows φ0 et
      have e1 : (takeX φ s).1 = .own k' rows := by rw [et]
      have e2 : (takeX φ s).2 = φ0 := by rw [et]
      split at h <;> try cases h
      rename_i hk'
      split at h <;> try cases h
      rename_i new hn
      split at h <;> try cases h
      rename_i hh
      split at h
      · rename_i hm
        subst hm
        split at h <;> try cases h
        rename_i hemp
        split at h
        · rename_i hemp2
          simp only [Option.some.injEq, Prod.mk.injEq] at h
          obtain ⟨rfl, rfl, rfl⟩ := h
          refine ⟨id, rfl, .inl rfl, fun ψ K hr ht hk => ⟨(takeX ψ s).2, ?_, fun q => takeX_get s q⟩⟩
          have h3 := hk.2.rows _ _ _ hn
          rw [← e2, ← hx ψ K hr] at h3
          simp only [stepA]
          rw [hsv ψ ht, e1]
          simp only [if_pos hk', h3, if_pos hh, if_true, hemp, hemp2, id]
        · rename_i hemp2
          simp only [Option.some.injEq, Prod.mk.injEq] at h
          obtain ⟨rfl, rfl, rfl⟩ := h
          refine ⟨fun K => K ++ [some new.flatten], rfl, .inr ⟨_, rfl⟩, fun ψ K hr ht hk => ⟨(takeX ψ s).2, ?_, fun q => takeX_get s q⟩⟩
          have h3 := hk.2.rows _ _ _ hn
          rw [← e2, ← hx ψ K hr] at h3
          simp only [stepA]
          rw [hsv ψ ht, e1]
          simp only [if_pos hk', h3, if_pos hh, if_true, hemp, hemp2, hk.1]
          simp
      · rename_i hm
        have hm' : m = false := by simpa using hm
        subst hm'
        simp only [Option.some.injEq, Prod.mk.injEq] at h
        obtain ⟨rfl, rfl, rfl⟩ := h
        refine ⟨id, rfl, .inl rfl, fun ψ K hr ht hk => ⟨(takeX ψ s).2, ?_, fun q => takeX_get s q⟩⟩
        have h3 := RdOK.rows hk _ _ _ hn
        rw [← e2, ← hx ψ K hr] at h3
        simp only [stepA]
        rw [hsv ψ ht, e1]
        simp only [if_pos hk', h3, if_pos hh, Bool.false_eq_true, if_false, id]
    · -- cpy
      rename_i k d s
      refine ⟨fun _ => H1, rfl, .inr trivial, fun ψ K hr ht hk => ?_⟩
      obtain rfl : K = H := hk
      have e := hr d (by simp [AOp.args])
      have e2 := hr s (by simp [AOp.args])
      have h2 : (stepA call ψ K (.cpy k d s)).map (fun r => (r.1, r.2.2)) = (stepA call φ K (.cpy k d s)).map (fun r => (r.1, r.2.2)) := by
        simp only [stepA, e, e2]; (repeat' split) <;> rfl
      rw [h] at h2
      rw [Option.map_some, Option.map_eq_some_iff] at h2
      obtain ⟨⟨v', ψ', K'⟩, h3, h4⟩ := h2
      simp only [Prod.mk.injEq] at h4
      obtain ⟨rfl, rfl⟩ := h4
      have : ψ' = ψ := by
        simp only [stepA] at h3
        (repeat' (split at h3)) <;> first | (cases h3; rfl) | (cases h3; done) | (simp_all; done)
      subst this
      exact ⟨_, h3, fun q => by simp [upd, AOp.takes]⟩
    · -- clr
      rename_i k zero d
      refine ⟨fun _ => H1, rfl, .inr trivial, fun ψ K hr ht hk => ?_⟩
      obtain rfl : K = H := hk
      have e := hr d (by simp [AOp.args])
      have h2 : (stepA call ψ K (.clr k zero d)).map (fun r => (r.1, r.2.2)) = (stepA call φ K (.clr k zero d)).map (fun r => (r.1, r.2.2)) := by
        simp only [stepA, e]; (repeat' split) <;> rfl
      rw [h] at h2
      rw [Option.map_some, Option.map_eq_some_iff] at h2
      obtain ⟨⟨v', ψ', K'⟩, h3, h4⟩ := h2
      simp only [Prod.mk.injEq] at h4
      obtain ⟨rfl, rfl⟩ := h4
      have : ψ' = ψ := by
        simp only [stepA] at h3
        (repeat' (split at h3)) <;> first | (cases h3; rfl) | (cases h3; done) | (simp_all; done)
      subst this
      exact ⟨_, h3, fun q => by simp [upd, AOp.takes]⟩
    · -- call
      rename_i f xs
      refine ⟨fun _ => H1, rfl, .inr trivial, fun ψ K hr ht hk => ?_⟩
      obtain rfl : K = H := hk
      have e := takeAll_loc (xs := xs) (φ := φ) (ψ := ψ) ht
      have e2 := takeAll_loc (xs := xs) (φ := ψ) (ψ := φ) (fun q hq => (ht q hq).symm)
      simp only [stepA, Option.map_eq_some_iff, Prod.mk.injEq, Prod.exists] at h ⊢
      obtain ⟨r, K', h1, rfl, rfl, rfl⟩ := h
      rw [e.1] at h1
      exact ⟨(takeAll ψ xs).2, ⟨_, _, h1, rfl, rfl, rfl⟩, e2.2⟩
    · -- callv
      rename_i fv xs
      refine ⟨fun _ => H1, rfl, .inr trivial, fun ψ K hr ht hk => ?_⟩
      obtain rfl : K = H := hk
      have e0 := hr fv (by simp [AOp.args])
      have e := takeAll_loc (xs := xs) (φ := φ) (ψ := ψ) ht
      have e2 := takeAll_loc (xs := xs) (φ := ψ) (ψ := φ) (fun q hq => (ht q hq).symm)
      simp only [stepA, ← e0] at h ⊢
      split at h <;> try cases h
      simp only [Option.map_eq_some_iff, Prod.mk.injEq, Prod.exists] at h ⊢
      obtain ⟨r, K', h1, rfl, rfl, rfl⟩ := h
      rw [e.1] at h1
      exact ⟨(takeAll ψ xs).2, ⟨_, _, h1, rfl, rfl, rfl⟩, e2.2⟩
    · -- apz
      rename_i k bytes s x
      have hx : ∀ (ψ : Fr) (K : Heap), (∀ y ∈ (AOp.apz k bytes s x).args, rd φ y = rd ψ y) → rd (takeX ψ s).2 x = rd (takeX φ s).2 x := fun ψ K hr => by
        rw [rd_take, rd_take]; exact (hr x (by simp [AOp.args])).symm
      have hsv : ∀ ψ : Fr, (∀ q ∈ (AOp.apz k bytes s x).takes, Fr.get φ q = Fr.get ψ q) → takeX ψ s = ((takeX φ s).1, (takeX ψ s).2) := fun ψ ht => by
        have : (takeX ψ s).1 = (takeX φ s).1 := by rw [takeX_val, takeX_val, ev_same (fun q hq => ht q hq)]
        rw [← this]
      simp only [stepA] at h
      split at h <;> try cases h
      rename_i k' rows φ0 et
      have e1 : (takeX φ s).1 = .own k' rows := by rw [et]
      have e2 : (takeX φ s).2 = φ0 := by rw [et]
      split at h <;> try cases h
      rename_i hk'
      split at h <;> try cases h
      rename_i new hn
      split at h <;> try cases h
      rename_i hh
      refine ⟨fun K => K ++ [some new.flatten], rfl, .inr ⟨_, rfl⟩, fun ψ K hr ht hk => ⟨(takeX ψ s).2, ?_, fun q => takeX_get s q⟩⟩
      have h3 := hk.2.rows _ _ _ hn
      rw [← e2, ← hx ψ K hr] at h3
      simp only [stepA]
      rw [hsv ψ ht, e1]
      simp only [if_pos hk', h3, if_pos hh, hk.1]
    · -- tkf
      rename_i x
      refine ⟨fun _ => H1, rfl, .inr trivial, fun ψ K hr ht hk => ?_⟩
      obtain rfl : K = H := hk
      have e := hr x (by simp [AOp.args])
      simp only [stepA, e, Option.map_eq_some_iff, Prod.mk.injEq] at h ⊢
      obtain ⟨r, h1, rfl, _, rfl⟩ := h
      exact ⟨ψ, ⟨r, h1, rfl, rfl, rfl⟩, fun q => by simp [upd, AOp.takes]⟩
    · -- stf
      rename_i p x
      refine ⟨fun _ => H1, rfl, .inr trivial, fun ψ K hr ht hk => ?_⟩
      obtain rfl : K = H := hk
      have e := hr p (by simp [AOp.args])
      have e2 := hr x (by simp [AOp.args])
      refine ⟨ψ, ?_, fun q => by simp [upd, AOp.takes]⟩
      simp only [stepA, e, e2] at h ⊢
      split at h <;> try cases h
      split at h <;> try cases h
      split at h <;> try cases h
      split at h <;> try cases h
      simp_all
    · -- callx
      rename_i f xs
      simp only [stepA, Option.map_eq_some_iff, Prod.mk.injEq] at h
      obtain ⟨r, h1, rfl, rfl, rfl⟩ := h
      refine ⟨fun K => K ++ r.2, rfl, .inr ⟨_, rfl⟩, fun ψ K hr ht hk => ⟨ψ, ?_, fun q => by simp [upd, AOp.takes]⟩⟩
      have e := map_cong (xs := xs) hr
      simp only [stepA, ← e, hk.1, h1, Option.map_some]
    · -- stq
      rename_i n p x rs
      refine ⟨fun _ => H1, rfl, .inr trivial, fun ψ K hr ht hk => ?_⟩
      obtain rfl : K = H := hk
      have e := hr p (by simp [AOp.args])
      have e3 : ∀ r ∈ rs, rd φ r = rd ψ r := fun r hm => hr r (by simp [AOp.args, hm])
      have e4 : ∀ i, rs.all (fun r => (rd φ r).ref.apart i) = rs.all (fun r => (rd ψ r).ref.apart i) := fun i => by
        rw [Bool.eq_iff_iff, List.all_eq_true, List.all_eq_true]
        exact ⟨fun h r hm => by rw [← e3 r hm]; exact h r hm, fun h r hm => by rw [e3 r hm]; exact h r hm⟩
      have e2 : (takeX ψ x).1 = (takeX φ x).1 := by rw [takeX_val, takeX_val, ev_same (fun q hq => ht q hq)]
      refine ⟨(takeX ψ x).2, ?_, fun q => takeX_get x q⟩
      simp only [stepA, storeOf, ← e, e2, ← e4] at h ⊢
      split at h <;> try cases h
      rename_i i off ep
      split at h <;> try cases h
      rename_i hall
      try dsimp only at h
      split at h <;> try cases h
      rename_i cs hi
      split at h <;> try cases h
      rename_i hh
      simp only [ep, if_pos hall, hi, if_pos hh]
    · -- allocb
      rename_i T e
      simp only [stepA, Option.some.injEq, Prod.mk.injEq] at h
      obtain ⟨rfl, rfl, rfl⟩ := h
      exact ⟨fun K => K ++ [some [.bld T e []]], rfl, .inr ⟨_, rfl⟩, fun ψ K hr ht hk => ⟨ψ, by simp only [stepA, hk.1], fun q => by simp [upd, AOp.takes]⟩⟩
    · -- mkm
      rename_i ag kinds
      simp only [stepA, Option.some.injEq, Prod.mk.injEq] at h
      obtain ⟨rfl, rfl, rfl⟩ := h
      exact ⟨fun K => K ++ [some [.mp ag kinds [] []]], rfl, .inr ⟨_, rfl⟩, fun ψ K hr ht hk => ⟨ψ, by simp only [stepA, hk.1], fun q => by simp [upd, AOp.takes]⟩⟩
    case stw n p x =>
      refine ⟨fun _ => H1, rfl, .inr trivial, fun ψ K hr ht hk => ?_⟩
      obtain rfl : K = H := hk
      have e := hr p (by simp [AOp.args])
      have e2 : (takeX ψ x).1 = (takeX φ x).1 := by rw [takeX_val, takeX_val, ev_same (fun q hq => ht q hq)]
      refine ⟨(takeX ψ x).2, ?_, fun q => takeX_get x q⟩
      simp only [stepA, ← e, e2] at h ⊢
      split at h <;> try cases h
      split at h <;> try cases h
      split at h <;> try cases h
      simp_all
    case apm k bytes s x =>
      refine ⟨fun _ => H1, rfl, .inr trivial, fun ψ K hr ht hk => ?_⟩
      obtain rfl : K = H := hk
      have e := hr x (by simp [AOp.args])
      have e2 : (takeX ψ s).1 = (takeX φ s).1 := by rw [takeX_val, takeX_val, ev_same (fun q hq => ht q hq)]
      refine ⟨(takeX ψ s).2, ?_, fun q => takeX_get s q⟩
      simp only [stepA, ← e, e2] at h ⊢
      split at h <;> try cases h
      rename_i new hc
      simp only [Option.map_eq_some_iff, Prod.mk.injEq] at h ⊢
      obtain ⟨r, h1, rfl, _, rfl⟩ := h
      exact ⟨r, h1, rfl, trivial, rfl⟩
    case ldf agg p =>
      refine ⟨fun _ => H1, rfl, .inr trivial, fun ψ K hr ht hk => ?_⟩
      obtain rfl : K = H := hk
      have e := hr p (by simp [AOp.args])
      refine ⟨ψ, ?_, fun q => by simp [upd, AOp.takes]⟩
      simp only [stepA, e] at h ⊢
      split at h <;> try cases h
      split at h <;> try cases h
      split at h <;> try cases h
      split at h <;> try cases h
      split at h <;> try cases h
      simp only [Option.map_eq_some_iff, Prod.mk.injEq] at h
      obtain ⟨u, h1, rfl, _, rfl⟩ := h
      simp_all
    case tkz x =>
      refine ⟨fun _ => H1, rfl, .inr trivial, fun ψ K hr ht hk => ?_⟩
      obtain rfl : K = H := hk
      have e := hr x (by simp [AOp.args])
      simp only [stepA, e, Option.map_eq_some_iff, Prod.mk.injEq] at h ⊢
      obtain ⟨r, h1, rfl, _, rfl⟩ := h
      exact ⟨ψ, ⟨r, h1, rfl, rfl, rfl⟩, fun q => by simp [upd, AOp.takes]⟩
    case callk f xs =>
      refine ⟨fun _ => H1, rfl, .inr trivial, fun ψ K hr ht hk => ?_⟩
      obtain rfl : K = H := hk
      have e := takeAll_loc (xs := xs) (φ := φ) (ψ := ψ) ht
      have e2 := takeAll_loc (xs := xs) (φ := ψ) (ψ := φ) (fun q hq => (ht q hq).symm)
      simp only [stepA, Option.map_eq_some_iff, Prod.mk.injEq, Prod.exists] at h ⊢
      obtain ⟨r, K', h1, rfl, rfl, rfl⟩ := h
      rw [e.1] at h1
      exact ⟨(takeAll ψ xs).2, ⟨_, _, h1, rfl, rfl, rfl⟩, e2.2⟩
    case callvk fv xs =>
      refine ⟨fun _ => H1, rfl, .inr trivial, fun ψ K hr ht hk => ?_⟩
      obtain rfl : K = H := hk
      have e0 := hr fv (by simp [AOp.args])
      have e := takeAll_loc (xs := xs) (φ := φ) (ψ := ψ) ht
      have e2 := takeAll_loc (xs := xs) (φ := ψ) (ψ := φ) (fun q hq => (ht q hq).symm)
      simp only [stepA, ← e0] at h ⊢
      split at h <;> try cases h
      simp only [Option.map_eq_some_iff, Prod.mk.injEq, Prod.exists] at h ⊢
      obtain ⟨r, K', h1, rfl, rfl, rfl⟩ := h
      rw [e.1] at h1
      exact ⟨(takeAll ψ xs).2, ⟨_, _, h1, rfl, rfl, rfl⟩, e2.2⟩
    case ldm p =>
      have key : ∀ (ψ : Fr), (∀ x ∈ (AOp.ldm p).args, rd φ x = rd ψ x) → rd ψ p = rd φ p := fun ψ hr => (hr p (by simp [AOp.args])).symm
      simp only [stepA] at h
      split at h <;> try cases h
      rename_i i off ep
      split at h <;> try cases h
      rename_i cs hi
      split at h <;> try cases h
      · rename_i k j o l c hc
        refine ⟨id, rfl, .inl rfl, fun ψ K hr ht hk => ⟨ψ, ?_, fun q => by simp [upd, AOp.takes]⟩⟩
        simp only [stepA, key ψ hr, ep, hk _ _ hi, hc, id]
      · rename_i k hc
        refine ⟨id, rfl, .inl rfl, fun ψ K hr ht hk => ⟨ψ, ?_, fun q => by simp [upd, AOp.takes]⟩⟩
        simp only [stepA, key ψ hr, ep, hk _ _ hi, hc, id]
    case mne ag kinds zero x k =>
      refine ⟨fun _ => H1, rfl, .inr trivial, fun ψ K hr ht hk => ?_⟩
      obtain rfl : K = H := hk
      have e := hr x (by simp [AOp.args])
      have e2 := hr k (by simp [AOp.args])
      simp only [stepA, e, e2, Option.map_eq_some_iff, Prod.mk.injEq] at h ⊢
      obtain ⟨r, h1, rfl, _, rfl⟩ := h
      exact ⟨ψ, ⟨r, h1, rfl, rfl, rfl⟩, fun q => by simp [upd, AOp.takes]⟩
    case mes x st v =>
      refine ⟨fun _ => H1, rfl, .inr trivial, fun ψ K hr ht hk => ?_⟩
      obtain rfl : K = H := hk
      have e := hr x (by simp [AOp.args])
      have e2 := hr st (by simp [AOp.args])
      have e3 := hr v (by simp [AOp.args])
      simp only [stepA, e, e2, e3, Option.map_eq_some_iff, Prod.mk.injEq] at h ⊢
      obtain ⟨r, h1, rfl, _, rfl⟩ := h
      exact ⟨ψ, ⟨r, h1, rfl, rfl, rfl⟩, fun q => by simp [upd, AOp.takes]⟩
    case callb f xs =>
      have hid : H1 = H := by
        simp only [stepA] at h
        split at h <;> try cases h
        split at h <;> try cases h
        split at h <;> try cases h
        rfl
      refine ⟨id, hid, .inl rfl, fun ψ K hr ht hk => ?_⟩
      obtain rfl : K = H := hk
      have e := map_cong (xs := xs) hr
      refine ⟨ψ, ?_, fun q => by simp [upd, AOp.takes]⟩
      simp only [stepA, e] at h ⊢
      split at h <;> try cases h
      split at h <;> try cases h
      split at h <;> try cases h
      simp_all
    case callr f xs =>
      have hid : H1 = H := by
        simp only [stepA, Option.map_eq_some_iff, Prod.mk.injEq] at h
        obtain ⟨_, _, _, _, h⟩ := h
        exact h.symm
      refine ⟨id, hid, .inl rfl, fun ψ K hr ht hk => ?_⟩
      obtain rfl : K = H := hk
      have e := takeAll_loc (xs := xs) (φ := φ) (ψ := ψ) ht
      have e2 := takeAll_loc (xs := xs) (φ := ψ) (ψ := φ) (fun q hq => (ht q hq).symm)
      simp only [stepA, Option.map_eq_some_iff, Prod.mk.injEq] at h ⊢
      obtain ⟨r, h1, rfl, rfl, rfl⟩ := h
      rw [e.1] at h1
      exact ⟨(takeAll ψ xs).2, ⟨_, h1, rfl, rfl, rfl⟩, e2.2⟩
    case ldoq p r =>
      have hp : ∀ ψ : Fr, (∀ y ∈ (AOp.ldoq p r).args, rd φ y = rd ψ y) → rd ψ p = rd φ p ∧ rd ψ r = rd φ r := fun ψ hr => ⟨(hr p (by simp [AOp.args])).symm, (hr r (by simp [AOp.args])).symm⟩
      simp only [stepA] at h
      split at h <;> try cases h
      rename_i i off j off' e1 e2
      split at h <;> try cases h
      rename_i hij
      split at h <;> try cases h
      rename_i cs hi
      split at h <;> try cases h
      · rename_i k rr hc
        refine ⟨fun K => K.set i (some (cs.set off (.sl k rr))), rfl, .inr ⟨i, cs, off, k, rr, hi, hc, rfl⟩, fun ψ K hr ht hk => ⟨ψ, ?_, fun q => by simp [upd, AOp.takes]⟩⟩
        simp only [stepA, (hp ψ hr).1, (hp ψ hr).2, e1, e2, if_pos hij, hk i _ hi, hc]
      · rename_i k hc
        refine ⟨id, rfl, .inl rfl, fun ψ K hr ht hk => ⟨ψ, ?_, fun q => by simp [upd, AOp.takes]⟩⟩
        simp only [stepA, (hp ψ hr).1, (hp ψ hr).2, e1, e2, if_pos hij, hk i _ hi, hc]
        rfl
      · rename_i hne hne' hc
        refine ⟨id, rfl, .inl rfl, fun ψ K hr ht hk => ⟨ψ, ?_, fun q => by simp [upd, AOp.takes]⟩⟩
        simp only [stepA, (hp ψ hr).1, (hp ψ hr).2, e1, e2, if_pos hij, hk i _ hi, hc]
        rfl
    case callh f xs r =>
      refine ⟨fun _ => H1, rfl, .inr trivial, fun ψ K hr ht hk => ?_⟩
      obtain rfl : K = H := hk
      have e := hr r (by simp [AOp.args])
      have e2 := map_cong (xs := xs) (fun y hy => hr y (by simp [AOp.args, hy]))
      refine ⟨ψ, ?_, fun q => by simp [upd, AOp.takes]⟩
      simp only [stepA, e, e2] at h ⊢
      split at h <;> try cases h
      split at h <;> try cases h
      split at h <;> try cases h
      split at h <;> try cases h
      simp_all
    case callvh fv xs r =>
      refine ⟨fun _ => H1, rfl, .inr trivial, fun ψ K hr ht hk => ?_⟩
      obtain rfl : K = H := hk
      have e := hr r (by simp [AOp.args])
      have e0 := hr fv (by simp [AOp.args])
      have e2 := map_cong (xs := xs) (fun y hy => hr y (by simp [AOp.args, hy]))
      refine ⟨ψ, ?_, fun q => by simp [upd, AOp.takes]⟩
      simp only [stepA, e, e0, e2] at h ⊢
      split at h <;> try cases h
      split at h <;> try cases h
      split at h <;> try cases h
      split at h <;> try cases h
      simp_all
    · -- mst
      rename_i ag kinds x k u
      refine ⟨fun _ => H1, rfl, .inr trivial, fun ψ K hr ht hk => ?_⟩
      obtain rfl : K = H := hk
      have e := hr x (by simp [AOp.args])
      have e2 := hr k (by simp [AOp.args])
      have e3 := hr u (by simp [AOp.args])
      simp only [stepA, e, e2, e3, Option.map_eq_some_iff, Prod.mk.injEq] at h ⊢
      obtain ⟨r, h1, rfl, _, rfl⟩ := h
      exact ⟨ψ, ⟨r, h1, rfl, rfl, rfl⟩, fun q => by simp [upd, AOp.takes]⟩

/-! ### Guarded operations -/

theorem wanted_strip {g : Option (Nat × Bool)} (h : ∀ q ∈ (g.map (·.1)).toList, (Fr.get φ q).strip = (Fr.get ψ q).strip) : wantedA φ g = wantedA ψ g := by
  unfold wantedA
  cases g with
  | none => rfl
  | some p =>
    obtain ⟨s, b⟩ := p
    have := h s (by simp)
    dsimp only
    generalize Fr.get φ s = u at this
    generalize Fr.get ψ s = v at this
    cases u <;> cases v <;> simp [V.strip] at this <;> first | rfl | (simp [this]; done) | (subst_vars; rfl) | skip

def updO (φ : Fr) (T : List Nat) (d : Option Nat) (v : V) (q : Nat) : V := if d = some q then v else upd φ T q

theorem stepO_loc {o : AOper} {φ1 : Fr} {H1 : Heap} (h : stepO call o φ H = some (φ1, H1)) : ∃ v T act, (∀ q ∈ T, q ∈ o.op.takes) ∧ (∀ q, Fr.get φ1 q = updO φ T o.d v q) ∧ H1 = act H ∧ ActOK o.op.hc H act ∧
    ∀ ψ K, (∀ q ∈ o.slots, (Fr.get φ q).strip = (Fr.get ψ q).strip) → (∀ q ∈ o.op.takes, Fr.get φ q = Fr.get ψ q) → hok o.op.hc H K → ∃ ψ1, stepO call o ψ K = some (ψ1, act K) ∧ ∀ q, Fr.get ψ1 q = updO ψ T o.d v q := by
  have put_get : ∀ (χ χ1 : Fr) (T : List Nat) (v : V), (∀ q, Fr.get χ1 q = upd χ T q) → ∀ q, Fr.get (Fr.put χ1 o.d v) q = updO χ T o.d v q := by
    intro χ χ1 T v hh q
    unfold updO
    by_cases hd : o.d = some q
    · rw [if_pos hd, hd, get_put_eq]
    · rw [if_neg hd, get_put_ne hd, hh]
  have hw : ∀ ψ, (∀ q ∈ o.slots, (Fr.get φ q).strip = (Fr.get ψ q).strip) → wantedA φ o.g = wantedA ψ o.g := fun ψ hh => wanted_strip fun q hq => hh q (List.mem_append.2 (.inr hq))
  unfold stepO at h
  split at h
  · rename_i hwt
    split at h <;> try cases h
    rename_i _ v φ0 hs
    obtain ⟨act, h1, h2, h3⟩ := step_loc hs
    obtain ⟨φ0', e1, e2⟩ := h3 φ H (fun _ _ => rfl) (fun _ _ => rfl) (hok.refl _ _)
    rw [hs] at e1
    simp only [Option.some.injEq, Prod.mk.injEq, true_and] at e1
    obtain ⟨rfl, _⟩ := e1
    refine ⟨v, o.op.takes, act, fun _ h => h, put_get φ _ _ v e2, h1, h2, fun ψ K hr ht hk => ?_⟩
    obtain ⟨ψ1, e3, e4⟩ := h3 ψ K (fun x hx => rd_strip fun q hq => hr q (List.mem_append.2 (.inl (List.mem_flatMap.2 ⟨x, hx, hq⟩)))) ht hk
    refine ⟨Fr.put ψ1 o.d v, ?_, put_get ψ _ _ v e4⟩
    unfold stepO
    rw [← hw ψ hr, hwt]
    simp only [e3]
  · rename_i hwt
    simp only [Option.some.injEq, Prod.mk.injEq] at h
    obtain ⟨rfl, rfl⟩ := h
    refine ⟨.no, [], id, fun _ h => by simp at h, put_get φ φ [] .no (fun q => by simp [upd]), rfl, .inl rfl, fun ψ K hr ht hk => ⟨Fr.put ψ o.d .no, ?_, put_get ψ ψ [] .no (fun q => by simp [upd])⟩⟩
    unfold stepO
    rw [← hw ψ hr, hwt]
    rfl
  · cases h

theorem takes_slots (o : AOper) : ∀ q ∈ o.op.takes, q ∈ o.slots := by
  intro q hq
  refine List.mem_append.2 (.inl ?_)
  cases hop : o.op <;> rw [hop] at hq <;> simp only [AOp.takes, List.not_mem_nil, AOp.args, List.flatMap_cons, List.flatMap_nil, List.append_nil, List.mem_append] at hq ⊢ <;> simp_all

/-- Two neighbours change places, given that the later one runs where the earlier one has not, and the earlier one behind it. -/
theorem swap_core {x y : AOper} (hd1 : ∀ q, x.d = some q → q ∉ y.slots ∧ y.d ≠ some q) (he1 : ∀ q, y.d = some q → q ∉ x.slots) (ht1 : ∀ q ∈ x.op.takes, q ∉ y.op.takes) {φ1 φ2 : Fr} {H2 H3 : Heap} {v u : V} {T S : List Nat}
    (hT : ∀ q ∈ T, q ∈ x.op.takes) (hφ1 : ∀ q, Fr.get φ1 q = updO φ T x.d v q) (hS : ∀ q ∈ S, q ∈ y.op.takes) (hφ2 : ∀ q, Fr.get φ2 q = updO φ1 S y.d u q)
    (locy : ∀ ψ, (∀ q ∈ y.slots, (Fr.get φ1 q).strip = (Fr.get ψ q).strip) → (∀ q ∈ y.op.takes, Fr.get φ1 q = Fr.get ψ q) → ∃ ψ1, stepO call y ψ H = some (ψ1, H3) ∧ ∀ q, Fr.get ψ1 q = updO ψ S y.d u q)
    (locx : ∀ ψ, (∀ q ∈ x.slots, (Fr.get φ q).strip = (Fr.get ψ q).strip) → (∀ q ∈ x.op.takes, Fr.get φ q = Fr.get ψ q) → ∃ ψ1, stepO call x ψ H3 = some (ψ1, H2) ∧ ∀ q, Fr.get ψ1 q = updO ψ T x.d v q) :
    ∃ φ3 H3 φ4, stepO call y φ H = some (φ3, H3) ∧ stepO call x φ3 H3 = some (φ4, H2) ∧ ∀ q, Fr.get φ4 q = Fr.get φ2 q := by
  obtain ⟨φ3, h3, hφ3⟩ := locy φ (fun q hq => by
      rw [hφ1 q]
      unfold updO
      rw [if_neg (fun h => (hd1 q h).1 hq)]
      unfold upd
      split
      · exact strip_strip _
      · rfl) (fun q hq => by
      rw [hφ1 q]
      unfold updO
      rw [if_neg (fun h => (hd1 q h).1 (takes_slots y q hq))]
      unfold upd
      rw [if_neg (fun h => ht1 q (hT q h) hq)])
  obtain ⟨φ4, h4, hφ4⟩ := locx φ3 (fun q hq => by
      rw [hφ3 q]
      unfold updO
      rw [if_neg (fun h => he1 q h hq)]
      unfold upd
      split
      · exact (strip_strip _).symm
      · rfl) (fun q hq => by
      rw [hφ3 q]
      unfold updO
      rw [if_neg (fun h => he1 q h (takes_slots x q hq))]
      unfold upd
      rw [if_neg (fun h => ht1 q hq (hS q h))])
  refine ⟨φ3, H3, φ4, h3, h4, fun q => ?_⟩
  rw [hφ4 q, hφ2 q]
  unfold updO upd
  rw [hφ3 q, hφ1 q]
  unfold updO upd
  by_cases h1 : x.d = some q
  · have h2 := hd1 q h1
    rw [if_pos h1, if_neg h2.2, if_neg (fun h => h2.1 (takes_slots y q (hS q h))), if_pos h1]
  · rw [if_neg h1, if_neg h1]
    by_cases h2 : y.d = some q
    · have h3 := he1 q h2
      rw [if_pos h2, if_pos h2, if_neg (fun h => h3 (takes_slots x q (hT q h)))]
    · rw [if_neg h2, if_neg h2]
      by_cases h5 : q ∈ T <;> by_cases h6 : q ∈ S <;> simp [h5, h6, strip_strip]

/-- What is looked into lies below the memory's end. -/
def lowOK (φ : Fr) (H : Heap) (y : AOper) : Prop := match y.op with
  | .ld _ (.t n) | .ldo (.t n) | .ldq _ (.t n) _ => (rd φ (.t n)).under H.length = true
  | _ => True

theorem get_push {H L : Heap} {i : Nat} (h : i < H.length) : (H ++ L)[i]? = H[i]? := List.getElem?_append_left h

theorem load_low {agg : Option Nat} {p : V} {L : Heap} (h : p.under H.length = true) : load (H ++ L) agg p = load H agg p := by
  cases p <;> try rfl
  simp only [V.under, decide_eq_true_eq] at h
  simp only [load, get_push h]

/-- An operation that looks into an old block does the same without the new ones. -/
theorem low_step {y : AOper} {φ2 : Fr} {H2 L : Heap} (hb : (∃ agg n, y.op = .ld agg (.t n)) ∨ (∃ n, y.op = .ldo (.t n)) ∨ ∃ agg n r, y.op = .ldq agg (.t n) r) (hl : lowOK φ H y) (h : stepO call y φ (H ++ L) = some (φ2, H2)) :
    ∃ H3, stepO call y φ H = some (φ2, H3) ∧ H2 = H3 ++ L ∧ H3.length = H.length ∧ RdOK H H3 := by
  unfold stepO at h ⊢
  split at h
  · rename_i hw
    split at h <;> try cases h
    rename_i v φ0 hs
    rcases hb with ⟨agg, n, e⟩ | ⟨n, e⟩ | ⟨agg, n, r, e⟩
    · unfold lowOK at hl
      rw [e] at hl hs ⊢
      dsimp only at hl
      simp only [stepA, load_low hl, Option.map_eq_some_iff, Prod.mk.injEq] at hs ⊢
      obtain ⟨u, h1, rfl, rfl, rfl⟩ := hs
      exact ⟨H, by simp only [h1, Option.map_some], rfl, rfl, .refl _⟩
    · unfold lowOK at hl
      rw [e] at hl hs ⊢
      dsimp only at hl
      simp only [stepA] at hs ⊢
      split at hs <;> try cases hs
      rename_i i off ep
      rw [ep] at hl
      simp only [V.under, decide_eq_true_eq] at hl
      rw [get_push hl] at hs
      split at hs <;> try cases hs
      rename_i cs hi
      split at hs <;> try cases hs
      · rename_i k r hc
        refine ⟨_, by simp only [ep, hi, hc], ?_, by simp, .strip hi (set_strip hc)⟩
        rw [List.set_append_left _ _ hl]
      · rename_i k hc
        exact ⟨H, by simp only [ep, hi, hc], rfl, rfl, .refl _⟩
      · rename_i hne hne' hc
        exact ⟨H, by simp only [ep, hi, hc], rfl, rfl, .refl _⟩
    · unfold lowOK at hl
      rw [e] at hl hs ⊢
      dsimp only at hl
      simp only [stepA] at hs ⊢
      split at hs <;> try cases hs
      rename_i i off j off' e1 e2
      split at hs <;> try cases hs
      rename_i hij
      rw [e1] at hl
      simp only [load_low hl, Option.map_eq_some_iff, Prod.mk.injEq] at hs
      obtain ⟨u, h1, rfl, rfl, rfl⟩ := hs
      exact ⟨H, by simp only [e1, e2, if_pos hij, h1, Option.map_some], rfl, rfl, .refl _⟩
  · rename_i hw
    simp only [Option.some.injEq, Prod.mk.injEq] at h
    obtain ⟨rfl, rfl⟩ := h
    exact ⟨H, rfl, rfl, rfl, .refl _⟩
  · cases h

/-- A look into another block is the same behind a store. -/
theorem ldq_move {x : AOper} {agg : Option Nat} {p : AX} {n : Nat} (hx : x.op = .ldq agg p (.t n)) {ψ1 : Fr} {H1 K : Heap} (h : stepO call x φ H = some (ψ1, H1)) (hk : ∀ i o, (rd φ (.t n)).ref = .ptr i o → K[i]? = H[i]?) : stepO call x φ K = some (ψ1, K) := by
  unfold stepO at h ⊢
  split at h
  · split at h <;> try cases h
    rename_i v φ0 hs
    rw [hx] at hs ⊢
    simp only [stepA] at hs ⊢
    split at hs <;> try cases hs
    rename_i i off j off' e1 e2
    split at hs <;> try cases hs
    rename_i hij
    simp only [Option.map_eq_some_iff, Prod.mk.injEq] at hs
    obtain ⟨u, h1, rfl, rfl, rfl⟩ := hs
    have := hk _ _ e2
    subst hij
    have e3 : load K agg (.ptr i off) = load H agg (.ptr i off) := by simp only [load, this]
    simp only [e1, e2, if_true, e3, h1, Option.map_some]
  · simp only [Option.some.injEq, Prod.mk.injEq] at h
    obtain ⟨rfl, rfl⟩ := h
    rfl
  · cases h

theorem stq_apart {y : AOper} {n m : Nat} {p z : AX} {rs : List AX} (hy : y.op = .stq n p z rs) (hm : AX.t m ∈ rs) {φ2 : Fr} {H2 : Heap} (h : stepO call y φ H = some (φ2, H2)) : ∀ i o, (rd φ (.t m)).ref = .ptr i o → H2[i]? = H[i]? := by
  intro i o hr
  unfold stepO at h
  split at h
  · split at h <;> try cases h
    rename_i v φ0 hs
    rw [hy] at hs
    simp only [stepA] at hs
    split at hs <;> try cases hs
    rename_i j off ep
    split at hs <;> try cases hs
    rename_i hall
    have h1 := List.all_eq_true.1 hall _ hm
    rw [hr] at h1
    simp only [V.apart, decide_eq_true_eq] at h1
    unfold storeOf at hs
    rw [ep] at hs
    dsimp only at hs
    split at hs <;> try cases hs
    split at hs <;> try cases hs
    rw [List.getElem?_set_ne (by omega)]
  · simp only [Option.some.injEq, Prod.mk.injEq] at h
    obtain ⟨rfl, rfl⟩ := h
    rfl
  · cases h

theorem callvh_apart {y : AOper} {m : Nat} {fv : AX} {xs : List AX} (hy : y.op = .callvh fv xs (.t m)) {φ2 : Fr} {H2 : Heap} (h : stepO call y φ H = some (φ2, H2)) : ∀ i o, (rd φ (.t m)).ref = .ptr i o → H2[i]? = H[i]? := by
  intro i o hr
  unfold stepO at h
  split at h
  · split at h <;> try cases h
    rename_i v φ0 hs
    rw [hy] at hs
    simp only [stepA] at hs
    split at hs <;> try cases hs
    rename_i f first cap j off e1 e2
    rw [e2] at hr
    have hr : V.ptr j off = .ptr i o := hr
    cases hr
    split at hs <;> try cases hs
    rename_i cs hi
    split at hs <;> try cases hs
    rename_i u K hc
    split at hs <;> try cases hs
    rename_i hK
    have hlt : i < K.length := by
      rcases Nat.lt_or_ge i K.length with h | h
      · exact h
      · rw [List.getElem?_eq_none h] at hK; cases hK
    rw [List.getElem?_set_self hlt, hi]
  · simp only [Option.some.injEq, Prod.mk.injEq] at h
    obtain ⟨rfl, rfl⟩ := h
    rfl
  · cases h

theorem callh_apart {y : AOper} {m f : Nat} {xs : List AX} (hy : y.op = .callh f xs (.t m)) {φ2 : Fr} {H2 : Heap} (h : stepO call y φ H = some (φ2, H2)) : ∀ i o, (rd φ (.t m)).ref = .ptr i o → H2[i]? = H[i]? := by
  intro i o hr
  unfold stepO at h
  split at h
  · split at h <;> try cases h
    rename_i v φ0 hs
    rw [hy] at hs
    simp only [stepA] at hs
    split at hs <;> try cases hs
    rename_i j off e2
    rw [e2] at hr
    have hr : V.ptr j off = .ptr i o := hr
    cases hr
    split at hs <;> try cases hs
    rename_i cs hi
    split at hs <;> try cases hs
    rename_i u K hc
    split at hs <;> try cases hs
    rename_i hK
    have hlt : i < K.length := by
      rcases Nat.lt_or_ge i K.length with h | h
      · exact h
      · rw [List.getElem?_eq_none h] at hK; cases hK
    rw [List.getElem?_set_self hlt, hi]
  · simp only [Option.some.injEq, Prod.mk.injEq] at h
    obtain ⟨rfl, rfl⟩ := h
    rfl
  · cases h

theorem behind_inv {x y : AOp} (h : x.behind y = true) : (x.hc = .al ∧ ((∃ agg n, y = .ld agg (.t n)) ∨ (∃ n, y = .ldo (.t n)) ∨ ∃ agg n r, y = .ldq agg (.t n) r)) ∨ (∃ agg p n m q z rs, x = .ldq agg p (.t n) ∧ y = .stq m q z rs ∧ AX.t n ∈ rs) ∨ (∃ p n f xs, x = .ldoq p (.t n) ∧ y = .callh f xs (.t n)) ∨ (∃ agg p n f xs, x = .ldq agg p (.t n) ∧ y = .callvh f xs (.t n)) ∨ ∃ agg p n f xs, x = .ldq agg p (.t n) ∧ y = .callh f xs (.t n) := by
  unfold AOp.behind at h
  split at h
  · rename_i agg p
    simp only [Bool.and_eq_true, decide_eq_true_eq] at h
    cases p with
    | t n => exact .inl ⟨h.1, .inl ⟨agg, n, rfl⟩⟩
    | c v => cases h.2
  · rename_i p
    simp only [Bool.and_eq_true, decide_eq_true_eq] at h
    cases p with
    | t n => exact .inl ⟨h.1, .inr (.inl ⟨n, rfl⟩)⟩
    | c v => cases h.2
  · rename_i agg p r
    simp only [Bool.and_eq_true, decide_eq_true_eq] at h
    cases p with
    | t n => exact .inl ⟨h.1, .inr (.inr ⟨agg, n, r, rfl⟩)⟩
    | c v => cases h.2
  · rename_i m q z rs
    split at h
    · rename_i agg p r
      obtain ⟨r', hm, hs⟩ := List.any_eq_true.1 h
      cases r with
      | c v => cases r' <;> cases hs
      | t n =>
        cases r' with
        | c v => cases hs
        | t n' =>
          have : n = n' := by simpa [AX.same] using hs
          subst this
          exact .inr (.inl ⟨agg, p, n, m, q, z, rs, rfl, rfl, hm⟩)
    · cases h
  · rename_i f xs r'
    split at h
    · rename_i p r
      cases r with
      | c v => cases r' <;> cases h
      | t n =>
        cases r' with
        | c v => cases h
        | t n' =>
          have : n = n' := by simpa [AX.same] using h
          subst this
          exact .inr (.inr (.inl ⟨p, n, f, xs, rfl, rfl⟩))
    · rename_i agg p r
      cases r with
      | c v => cases r' <;> cases h
      | t n =>
        cases r' with
        | c v => cases h
        | t n' =>
          have : n = n' := by simpa [AX.same] using h
          subst this
          exact .inr (.inr (.inr (.inr ⟨agg, p, n, f, xs, rfl, rfl⟩)))
    · cases h
  · rename_i f xs r'
    split at h
    · rename_i agg p r
      cases r with
      | c v => cases r' <;> cases h
      | t n =>
        cases r' with
        | c v => cases h
        | t n' =>
          have : n = n' := by simpa [AX.same] using h
          subst this
          exact .inr (.inr (.inr (.inl ⟨agg, p, n, f, xs, rfl, rfl⟩)))
    · cases h
  · cases h

theorem stepO_on {o : AOper} (hw : wantedA φ o.g = some true) : stepO call o φ H = match stepA call φ H o.op with
    | some (v, φ, H) => some (Fr.put φ o.d v, H)
    | none => none := by simp only [stepO, hw]; cases stepA call φ H o.op <;> rfl
theorem stepO_off {o : AOper} (hw : wantedA φ o.g = some false) : stepO call o φ H = some (Fr.put φ o.d .no, H) := by simp only [stepO, hw]

/-- A list's end is taken out of a block that a call does not see: the call comes first. -/
theorem hid_swap {x y : AOper} {p : AX} {n f : Nat} {xs : List AX} (ex : x.op = .ldoq p (.t n)) (ey : y.op = .callh f xs (.t n)) (hd1 : ∀ q, x.d = some q → q ∉ y.slots ∧ y.d ≠ some q) {φ1 φ2 : Fr} {H1 H2 : Heap}
    (hx : stepO call x φ H = some (φ1, H1)) (hy : stepO call y φ1 H1 = some (φ2, H2)) (heq : rd φ1 (.t n) = rd φ (.t n)) :
    ∃ H3, (∀ ψ ψ1 : Fr, stepO call y ψ H1 = some (ψ1, H2) → rd ψ (.t n) = rd φ1 (.t n) → wantedA ψ y.g = wantedA φ1 y.g → stepO call y ψ H = some (ψ1, H3)) ∧
      (∀ ψ ψ1 : Fr, stepO call x ψ H = some (ψ1, H1) → rd ψ (.t n) = rd φ (.t n) → rd ψ p = rd φ p → wantedA ψ x.g = wantedA φ x.g → stepO call x ψ H3 = some (ψ1, H2)) := by
  have hset : ∀ (L : Heap) (i : Nat) (c : Option (List V)), L[i]? = some c → L.set i c = L := by
    intro L i c h
    apply List.ext_getElem?
    intro j
    rw [List.getElem?_set]
    by_cases hj : i = j
    · subst hj
      rw [if_pos rfl]
      split
      · exact h.symm
      · rename_i hlt; rw [List.getElem?_eq_none (by omega)]
    · rw [if_neg hj]
  rcases hwy : wantedA φ1 y.g with _ | by'
  · unfold stepO at hy; rw [hwy] at hy; cases hy
  · cases by' with
    | false =>
      have h2 : H2 = H1 := by rw [stepO_off hwy] at hy; cases hy; rfl
      subst h2
      refine ⟨H, fun ψ ψ1 h _ hw => ?_, fun ψ ψ1 h _ _ _ => h⟩
      rw [stepO_off hw] at h ⊢
      cases h; rfl
    | true =>
      rcases hwx : wantedA φ x.g with _ | bx
      · unfold stepO at hx; rw [hwx] at hx; cases hx
      · cases bx with
        | false =>
          have h1 : H1 = H := by rw [stepO_off hwx] at hx; cases hx; rfl
          subst h1
          refine ⟨H2, fun ψ ψ1 h _ _ => h, fun ψ ψ1 h _ _ hw => ?_⟩
          rw [stepO_off hw] at h ⊢
          cases h; rfl
        | true =>
          -- both run
          have hy' := hy
          rw [stepO_on hwy] at hy'
          split at hy' <;> try cases hy'
          rename_i v2 φ20 hs2
          rw [ey] at hs2
          simp only [stepA] at hs2
          split at hs2 <;> try cases hs2
          rename_i i o er
          split at hs2 <;> try cases hs2
          rename_i cs1 hi1
          split at hs2 <;> try cases hs2
          rename_i u K hcl
          split at hs2 <;> try cases hs2
          rename_i hK
          rw [heq] at er
          have hx' := hx
          rw [stepO_on hwx] at hx'
          split at hx' <;> try cases hx'
          rename_i v1 φ10 hs1
          rw [ex] at hs1
          simp only [stepA] at hs1
          split at hs1 <;> try cases hs1
          rename_i i' off j' off' e1 e2
          rw [er] at e2
          cases e2
          split at hs1 <;> try cases hs1
          rename_i hij
          subst hij
          split at hs1 <;> try cases hs1
          rename_i cs hi
          have hKl : i' < K.length := by
            rcases Nat.lt_or_ge i' K.length with h | h
            · exact h
            · rw [List.getElem?_eq_none h] at hK; cases hK
          -- what the first leaves
          have hb1 : H1.set i' none = H.set i' none ∧ ((∃ k r, cs[off]? = some (.own k r) ∧ v1 = .own k r ∧ H1 = H.set i' (some (cs.set off (.sl k r))) ∧ cs1 = cs.set off (.sl k r)) ∨ (∃ k, cs[off]? = some (.nils k) ∧ v1 = .own k [] ∧ H1 = H ∧ cs1 = cs) ∨ ((∀ k r, v1 ≠ .own k r) ∧ (∀ k, v1 ≠ .nils k) ∧ cs[off]? = some v1 ∧ H1 = H ∧ cs1 = cs)) := by
            have hlt : i' < H.length := by
              rcases Nat.lt_or_ge i' H.length with h | h
              · exact h
              · rw [List.getElem?_eq_none h] at hi; cases hi
            split at hs1 <;> try cases hs1
            · rename_i k r hc
              rw [List.getElem?_set_self hlt] at hi1
              cases hi1
              exact ⟨by rw [List.set_set], .inl ⟨k, r, hc, rfl, rfl, rfl⟩⟩
            · rename_i k hc
              rw [hi] at hi1
              cases hi1
              exact ⟨rfl, .inr (.inl ⟨k, hc, rfl, rfl, rfl⟩)⟩
            · rename_i hne hne' hc
              rw [hi] at hi1
              cases hi1
              exact ⟨rfl, .inr (.inr ⟨fun k r e => hne k r (by rw [e]), fun k e => hne' k (by rw [e]), hc, rfl, rfl⟩)⟩
          obtain ⟨hb1, hb2⟩ := hb1
          refine ⟨K.set i' (some cs), fun ψ ψ1 h hr hw => ?_, fun ψ ψ1 h hr hp hw => ?_⟩
          · rw [stepO_on hw] at h ⊢
            rw [ey] at h ⊢
            simp only [stepA] at h ⊢
            rw [hr, heq, er] at h ⊢
            simp only [hi1, hi, hb1] at h ⊢
            rcases hcl3 : call f (xs.map (rd ψ)) (H.set i' none) with _ | ⟨u3, K4⟩
            · simp only [hcl3] at h; cases h
            · simp only [hcl3] at h ⊢
              rcases hK4 : K4[i']? with _ | _ | c
              · simp only [hK4] at h; cases h
              · simp only [hK4] at h ⊢
                simp only [Option.some.injEq, Prod.mk.injEq] at h ⊢
                obtain ⟨h6, h7⟩ := h
                refine ⟨h6, ?_⟩
                have h8 := congrArg (fun L => L.set i' (some cs)) h7
                simpa [List.set_set] using h8
              · simp only [hK4] at h; cases h
          · rw [stepO_on hw] at h ⊢
            rw [ex] at h ⊢
            simp only [stepA] at h ⊢
            rw [hr, er, hp, e1] at h ⊢
            simp only [if_true, hi, List.getElem?_set_self hKl] at h ⊢
            rcases hb2 with ⟨k, r, hc, rfl, h4, h5⟩ | ⟨k, hc, rfl, h4, h5⟩ | ⟨hne, hne', hc, h4, h5⟩
            · simp only [hc, List.set_set] at h ⊢
              simp only [Option.some.injEq, Prod.mk.injEq] at h ⊢
              exact ⟨h.1, by rw [h5]⟩
            · simp only [hc] at h ⊢
              simp only [Option.some.injEq, Prod.mk.injEq] at h ⊢
              exact ⟨h.1, by rw [h5]⟩
            · cases v1 <;> first
                | exact absurd rfl (hne _ _)
                | exact absurd rfl (hne' _)
                | (simp only [hc] at h ⊢; simp only [Option.some.injEq, Prod.mk.injEq] at h ⊢; exact ⟨h.1, by rw [h5]⟩)

theorem lowOK_cong {y : AOper} {K : Heap} (h : lowOK φ H y) (hs : ∀ q ∈ y.slots, (Fr.get φ q).strip = (Fr.get ψ q).strip) (hl : H.length ≤ K.length ∨ ∀ n, (∀ agg, y.op ≠ .ld agg (.t n)) ∧ y.op ≠ .ldo (.t n) ∧ ∀ agg r, y.op ≠ .ldq agg (.t n) r) (um : ∀ {m n : Nat} (v : V), m ≤ n → v.under m = true → v.under n = true) : lowOK ψ K y := by
  unfold lowOK at h ⊢
  split
  · rename_i agg n e
    rw [e] at h
    rcases hl with hl | hl
    · rw [← rd_strip (x := .t n) (fun q hq => hs q (List.mem_append.2 (.inl (by simp [AOp.args, e, hq]))))]
      exact um _ hl h
    · exact absurd e ((hl n).1 agg)
  · rename_i n e
    rw [e] at h
    rcases hl with hl | hl
    · rw [← rd_strip (x := .t n) (fun q hq => hs q (List.mem_append.2 (.inl (by simp [AOp.args, e, hq]))))]
      exact um _ hl h
    · exact absurd e (hl n).2.1
  · rename_i agg n r e
    rw [e] at h
    rcases hl with hl | hl
    · rw [← rd_strip (x := .t n) (fun q hq => hs q (List.mem_append.2 (.inl (by simp only [AOp.args, e, List.flatMap_cons, List.mem_append]; exact .inl hq))))]
      exact um _ hl h
    · exact absurd e ((hl n).2.2 agg r)
  · trivial

mutual
theorem V.under_up {m n : Nat} (h : m ≤ n) : ∀ v : V, v.under m = true → v.under n = true
  | .ptr i _, hv => by simp only [V.under, decide_eq_true_eq] at hv ⊢; omega
  | .ms i _ _ _, hv => by simp only [V.under, decide_eq_true_eq] at hv ⊢; omega
  | .agg cs, hv => by simp only [V.under] at hv ⊢; exact V.underAll_up h cs hv
  | .tup cs, hv => by simp only [V.under] at hv ⊢; exact V.underAll_up h cs hv
  | .fn _ a b, hv => by simp only [V.under, Bool.and_eq_true] at hv ⊢; exact ⟨V.underAll_up h a hv.1, V.underAll_up h b hv.2⟩
  | .yld i, hv => by simp only [V.under, decide_eq_true_eq] at hv ⊢; omega
  | .mix _ _ i _, hv => by simp only [V.under, decide_eq_true_eq] at hv ⊢; omega
  | .bool _, _ | .int .., _ | .str _, _ | .nilp, _ | .nilf, _ | .undef, _ | .no, _ | .rp .., _ | .sl .., _ | .own .., _ | .lrec .., _ | .bld .., _ | .mp .., _ | .nilm, _ | .nils _, _ => rfl
  | .bptr i, hv => by simp only [V.under, decide_eq_true_eq] at hv ⊢; omega
  | .mptr i, hv => by simp only [V.under, decide_eq_true_eq] at hv ⊢; omega
  | .mg _ i _ _ _, hv => by simp only [V.under, decide_eq_true_eq] at hv ⊢; omega
theorem V.underAll_up {m n : Nat} (h : m ≤ n) : ∀ vs : List V, V.underAll m vs = true → V.underAll n vs = true
  | [], _ => rfl
  | v :: vs, hv => by simp only [V.underAll, Bool.and_eq_true] at hv ⊢; exact ⟨V.under_up h v hv.1, V.underAll_up h vs hv.2⟩
end

theorem act_length {c : HC} {act : Heap → Heap} (h : ActOK c H act) (hc : c ≠ .wr) : H.length ≤ (act H).length := by
  rcases h with rfl | h
  · exact Nat.le_refl _
  · cases c <;> simp only at h <;> try exact h.elim
    · obtain ⟨i, cs, off, k, r, _, _, rfl⟩ := h
      simp
    · obtain ⟨L, rfl⟩ := h
      simp
    · exact absurd rfl hc

/-- What is looked into stays below the end. -/
theorem low_next {x y : AOper} (hi : x.indep y = true) {φ1 : Fr} {H1 : Heap} (hx : stepO call x φ H = some (φ1, H1)) (hl : lowOK φ H y) : lowOK φ1 H1 y := by
  unfold AOper.indep at hi
  simp only [Bool.and_eq_true, Bool.or_eq_true] at hi
  obtain ⟨⟨⟨hc, hd⟩, he⟩, ht⟩ := hi
  obtain ⟨v, T, act, hT, hφ1, rfl, hact, locx⟩ := stepO_loc hx
  refine lowOK_cong hl (fun q hq => ?_) ?_ (fun v h => V.under_up h v)
  · rw [hφ1 q]
    unfold updO
    have hne : x.d ≠ some q := by
      intro h
      rw [h] at hd
      simp only [Bool.and_eq_true, Bool.not_eq_true', bne_iff_ne, ne_eq] at hd
      exact absurd hq (by simpa using hd.1)
    rw [if_neg hne]
    unfold upd
    split
    · exact (strip_strip _).symm
    · rfl
  · by_cases hw : x.op.hc = .wr
    · refine .inr fun n => ⟨fun agg e => ?_, fun e => ?_, fun agg r e => ?_⟩
      · rcases hc with hc | hc
        · rw [hw, e] at hc; simp [HC.free, AOp.hc] at hc
        · rw [e] at hc; simp [AOp.behind, hw] at hc
      · rcases hc with hc | hc
        · rw [hw, e] at hc; simp [HC.free, AOp.hc] at hc
        · rw [e] at hc; simp [AOp.behind, hw] at hc
      · rcases hc with hc | hc
        · rw [hw, e] at hc; simp [HC.free, AOp.hc] at hc
        · rw [e] at hc; simp [AOp.behind, hw] at hc
    · exact .inl (act_length hact hw)

theorem swap {x y : AOper} (hi : x.indep y = true) (hlow : lowOK φ H y) {φ1 φ2 : Fr} {H1 H2 : Heap} (hx : stepO call x φ H = some (φ1, H1)) (hy : stepO call y φ1 H1 = some (φ2, H2)) :
    ∃ φ3 H3 φ4, stepO call y φ H = some (φ3, H3) ∧ stepO call x φ3 H3 = some (φ4, H2) ∧ ∀ q, Fr.get φ4 q = Fr.get φ2 q := by
  unfold AOper.indep at hi
  simp only [Bool.and_eq_true, Bool.or_eq_true] at hi
  obtain ⟨⟨⟨hc, hd⟩, he⟩, ht⟩ := hi
  have hd1 : ∀ q, x.d = some q → q ∉ y.slots ∧ y.d ≠ some q := by
    intro q hq
    rw [hq] at hd
    simp only [Bool.and_eq_true, Bool.not_eq_true', bne_iff_ne, ne_eq] at hd
    exact ⟨by simpa using hd.1, hd.2⟩
  have he1 : ∀ q, y.d = some q → q ∉ x.slots := by
    intro q hq
    rw [hq] at he
    simpa using he
  have ht1 : ∀ q ∈ x.op.takes, q ∉ y.op.takes := fun q hq => by simpa using List.all_eq_true.1 ht q hq
  obtain ⟨v, T, act, hT, hφ1, rfl, hact, locx⟩ := stepO_loc hx
  rcases hc with hc | hc
  case inr =>
    rcases behind_inv hc with ⟨hal, hb⟩ | ⟨agg, p, n, m, q, z, rs, ex, ey, hm⟩ | ⟨p, n, f, xs, ex, ey⟩ | ⟨agg, p, n, f, xs, ex, ey⟩ | ⟨agg, p, n, f, xs, ex, ey⟩
    · -- an old block is looked into
      have hlow1 : lowOK φ1 (act H) y := low_next (x := x) (y := y) (by
        unfold AOper.indep
        simp only [Bool.and_eq_true, Bool.or_eq_true]
        exact ⟨⟨⟨.inr hc, hd⟩, he⟩, ht⟩) hx hlow
      have hlow2 : lowOK φ1 H y := by
        refine lowOK_cong hlow (fun q hq => ?_) (.inl (Nat.le_refl _)) (fun v h => V.under_up h v)
        rw [hφ1 q]
        unfold updO
        rw [if_neg (fun h => (hd1 q h).1 hq)]
        unfold upd
        split
        · exact (strip_strip _).symm
        · rfl
      obtain ⟨L, hL⟩ : ∃ L, act = fun K => K ++ L := by
        rcases hact with rfl | h
        · exact ⟨[], by funext K; simp⟩
        · rw [hal] at h; exact h
      subst hL
      obtain ⟨H3, hy3, rfl, hlen, hrd⟩ := low_step hb hlow2 hy
      obtain ⟨u, S, bct, hS, hφ2, rfl, hbct, locy⟩ := stepO_loc hy3
      refine swap_core hd1 he1 ht1 hT hφ1 hS hφ2 (fun ψ h1 h2 => locy ψ H h1 h2 (hok.refl _ _)) (fun ψ h1 h2 => locx ψ _ h1 h2 ?_)
      rw [hal]
      exact ⟨hlen, hrd⟩
    · -- a store leads elsewhere
      obtain ⟨u, S, bct, hS, hφ2, rfl, hbct, locy⟩ := stepO_loc hy
      have hid : act = id := by
        rcases hact with h | h
        · exact h
        · rw [ex] at h; exact h.elim
      subst hid
      refine swap_core (H3 := bct H) hd1 he1 ht1 hT hφ1 hS hφ2 (fun ψ h1 h2 => locy ψ H h1 h2 (hok.refl _ _)) (fun ψ h1 h2 => ?_)
      obtain ⟨ψ1, h3, h4⟩ := locx ψ H h1 h2 (hok.refl _ _)
      refine ⟨ψ1, ldq_move ex h3 (fun i o hr => stq_apart ey hm hy i o ?_), h4⟩
      rw [← hr]
      have hn : n ∈ y.slots := List.mem_append.2 (.inl (List.mem_flatMap.2 ⟨.t n, by rw [ey]; simp [AOp.args, hm], by simp [AX.slots]⟩))
      have hn2 : n ∈ x.slots := List.mem_append.2 (.inl (List.mem_flatMap.2 ⟨.t n, by rw [ex]; simp [AOp.args], by simp [AX.slots]⟩))
      refine congrArg V.ref (rd_strip fun q hq => ?_)
      simp only [AX.slots, List.mem_singleton] at hq
      subst hq
      rw [← h1 q hn2, hφ1 q]
      unfold updO
      rw [if_neg (fun h => (hd1 q h).1 hn)]
      unfold upd
      split
      · exact strip_strip _
      · rfl
    · -- a call that does not see the block
      have hn : n ∈ y.slots := List.mem_append.2 (.inl (List.mem_flatMap.2 ⟨.t n, by rw [ey]; simp [AOp.args], by simp [AX.slots]⟩))
      have heq : rd φ1 (.t n) = rd φ (.t n) := by
        refine rd_strip fun q hq => ?_
        simp only [AX.slots, List.mem_singleton] at hq
        subst hq
        rw [hφ1 q]
        unfold updO
        rw [if_neg (fun h => (hd1 q h).1 hn)]
        unfold upd
        split
        · exact strip_strip _
        · rfl
      obtain ⟨H3, hy3, hx3⟩ := hid_swap ex ey hd1 hx hy heq
      obtain ⟨u, S, bct, hS, hφ2, rfl, hbct, locy⟩ := stepO_loc hy
      refine swap_core (H3 := H3) hd1 he1 ht1 hT hφ1 hS hφ2 (fun ψ h1 h2 => ?_) (fun ψ h1 h2 => ?_)
      · obtain ⟨ψ1, h3, h4⟩ := locy ψ (act H) h1 h2 (hok.refl _ _)
        refine ⟨ψ1, hy3 ψ ψ1 h3 (rd_strip fun q hq => ?_) (wanted_strip fun q hq => (h1 q (List.mem_append.2 (.inr hq))).symm), h4⟩
        simp only [AX.slots, List.mem_singleton] at hq
        subst hq
        exact (h1 q hn).symm
      · obtain ⟨ψ1, h3, h4⟩ := locx ψ H h1 h2 (hok.refl _ _)
        have hn2 : ∀ z ∈ [p, AX.t n], ∀ q ∈ z.slots, q ∈ x.slots := fun z hz q hq => List.mem_append.2 (.inl (List.mem_flatMap.2 ⟨z, by rw [ex]; exact hz, hq⟩))
        exact ⟨ψ1, hx3 ψ ψ1 h3 (rd_strip fun q hq => (h1 q (hn2 _ (by simp) q hq)).symm) (rd_strip fun q hq => (h1 q (hn2 _ (by simp) q hq)).symm) (wanted_strip fun q hq => (h1 q (List.mem_append.2 (.inr hq))).symm), h4⟩
    · -- a call of a value that does not see the block
      obtain ⟨u, S, bct, hS, hφ2, rfl, hbct, locy⟩ := stepO_loc hy
      have hid : act = id := by
        rcases hact with h | h
        · exact h
        · rw [ex] at h; exact h.elim
      subst hid
      refine swap_core (H3 := bct H) hd1 he1 ht1 hT hφ1 hS hφ2 (fun ψ h1 h2 => locy ψ H h1 h2 (hok.refl _ _)) (fun ψ h1 h2 => ?_)
      obtain ⟨ψ1, h3, h4⟩ := locx ψ H h1 h2 (hok.refl _ _)
      refine ⟨ψ1, ldq_move ex h3 (fun i o hr => callvh_apart ey hy i o ?_), h4⟩
      rw [← hr]
      have hn : n ∈ y.slots := List.mem_append.2 (.inl (List.mem_flatMap.2 ⟨.t n, by rw [ey]; simp [AOp.args], by simp [AX.slots]⟩))
      have hn2 : n ∈ x.slots := List.mem_append.2 (.inl (List.mem_flatMap.2 ⟨.t n, by rw [ex]; simp [AOp.args], by simp [AX.slots]⟩))
      refine congrArg V.ref (rd_strip fun q hq => ?_)
      simp only [AX.slots, List.mem_singleton] at hq
      subst hq
      rw [← h1 q hn2, hφ1 q]
      unfold updO
      rw [if_neg (fun h => (hd1 q h).1 hn)]
      unfold upd
      split
      · exact strip_strip _
      · rfl
    · -- a call, behind a look, that does not see the block
      obtain ⟨u, S, bct, hS, hφ2, rfl, hbct, locy⟩ := stepO_loc hy
      have hid : act = id := by
        rcases hact with h | h
        · exact h
        · rw [ex] at h; exact h.elim
      subst hid
      refine swap_core (H3 := bct H) hd1 he1 ht1 hT hφ1 hS hφ2 (fun ψ h1 h2 => locy ψ H h1 h2 (hok.refl _ _)) (fun ψ h1 h2 => ?_)
      obtain ⟨ψ1, h3, h4⟩ := locx ψ H h1 h2 (hok.refl _ _)
      refine ⟨ψ1, ldq_move ex h3 (fun i o hr => callh_apart ey hy i o ?_), h4⟩
      rw [← hr]
      have hn : n ∈ y.slots := List.mem_append.2 (.inl (List.mem_flatMap.2 ⟨.t n, by rw [ey]; simp [AOp.args], by simp [AX.slots]⟩))
      have hn2 : n ∈ x.slots := List.mem_append.2 (.inl (List.mem_flatMap.2 ⟨.t n, by rw [ex]; simp [AOp.args], by simp [AX.slots]⟩))
      refine congrArg V.ref (rd_strip fun q hq => ?_)
      simp only [AX.slots, List.mem_singleton] at hq
      subst hq
      rw [← h1 q hn2, hφ1 q]
      unfold updO
      rw [if_neg (fun h => (hd1 q h).1 hn)]
      unfold upd
      split
      · exact strip_strip _
      · rfl
  obtain ⟨u, S, bct, hS, hφ2, rfl, hbct, locy⟩ := stepO_loc hy
  -- the later one first
  have hcy : hok y.op.hc (act H) H := by
    revert hc hact hbct
    cases x.op.hc <;> cases y.op.hc <;> simp only [HC.free, Bool.false_eq_true, false_implies, true_implies, implies_true, ActOK] <;> intro hact hbct <;> try exact trivial
    all_goals first
      | (rcases hact with rfl | hact
         · exact hok.refl _ _
         · exact hact.elim)
      | (rcases hact with rfl | ⟨i, cs, off, k, r, h1, h2, rfl⟩
         · exact hok.refl _ _
         · have hlt : i < H.length := by
             rcases Nat.lt_or_ge i H.length with h | h
             · exact h
             · rw [List.getElem?_eq_none h] at h1; cases h1
           have hh : RdOK (H.set i (some (cs.set off (.sl k r)))) H := by
             have := RdOK.strip (H := H.set i (some (cs.set off (.sl k r)))) (i := i) (cs := cs.set off (.sl k r)) (ds := cs) (List.getElem?_set_self hlt) (set_strip h2).symm
             rw [List.set_set] at this
             have e : H.set i (some cs) = H := by
               apply List.ext_getElem?
               intro j
               rw [List.getElem?_set]
               by_cases hj : i = j
               · subst hj; rw [if_pos rfl, if_pos hlt, h1]
               · simp [hj]
             rwa [e] at this
           first
             | exact hh
             | exact ⟨by simp, hh⟩)
  -- then the earlier one
  have hcx : hok x.op.hc H (bct H) ∧ act (bct H) = bct (act H) := by
    clear hcy locx locy hφ1 hφ2 hx hy
    revert hc hact hbct
    cases x.op.hc <;> cases y.op.hc <;> simp only [HC.free, Bool.false_eq_true, false_implies, true_implies, implies_true, ActOK] <;> intro hact hbct
    all_goals first
      | (rcases hact with rfl | hact
         · refine ⟨?_, rfl⟩
           first
             | exact trivial
             | (rcases hbct with rfl | hbct
                · exact hok.refl _ _
                · first
                    | exact hbct.elim
                    | (obtain ⟨i, cs, off, k, r, h1, h2, rfl⟩ := hbct
                       exact RdOK.strip h1 (set_strip h2))
                    | (obtain ⟨b, rfl⟩ := hbct
                       exact RdOK.push H b)
                    | (obtain ⟨b, rfl⟩ := hbct
                       intro i c h
                       have : i < H.length := by
                         rcases Nat.lt_or_ge i H.length with h1 | h1
                         · exact h1
                         · rw [List.getElem?_eq_none h1] at h; cases h
                       show (H ++ b)[i]? = some c
                       rw [List.getElem?_append_left this]; exact h))
         · first
             | exact hact.elim
             | (rcases hbct with rfl | hbct
                · exact ⟨hok.refl _ _, rfl⟩
                · first
                    | exact hbct.elim
                    | (obtain ⟨b, rfl⟩ := hbct
                       obtain ⟨i, cs, off, k, r, h1, h2, rfl⟩ := hact
                       have hlt : i < H.length := by
                         rcases Nat.lt_or_ge i H.length with h | h
                         · exact h
                         · rw [List.getElem?_eq_none h] at h1; cases h1
                       refine ⟨?_, ?_⟩
                       · intro j c h
                         have : j < H.length := by
                           rcases Nat.lt_or_ge j H.length with h1 | h1
                           · exact h1
                           · rw [List.getElem?_eq_none h1] at h; cases h
                         show (H ++ b)[j]? = some c
                         rw [List.getElem?_append_left this]; exact h
                       · show (H ++ b).set i _ = H.set i _ ++ b
                         rw [List.set_append_left _ _ hlt])))
  obtain ⟨φ2', hy3, hφ2'⟩ := locy φ1 H (fun _ _ => rfl) (fun _ _ => rfl) hcy
  obtain ⟨r1, r2, r3, r4, r5, r6⟩ := swap_core (H3 := bct H) hd1 he1 ht1 hT hφ1 hS hφ2 (fun ψ h1 h2 => locy ψ H h1 h2 hcy) (fun ψ h1 h2 => hcx.2 ▸ locx ψ (bct H) h1 h2 hcx.1)
  exact ⟨r1, r2, r3, r4, r5, r6⟩

theorem stepO_congr {o : AOper} {φ1 : Fr} {H1 : Heap} (h : stepO call o φ H = some (φ1, H1)) (he : ∀ q, Fr.get φ q = Fr.get ψ q) : ∃ ψ1, stepO call o ψ H = some (ψ1, H1) ∧ ∀ q, Fr.get φ1 q = Fr.get ψ1 q := by
  obtain ⟨v, T, act, hT, hφ1, rfl, hact, loc⟩ := stepO_loc h
  obtain ⟨ψ1, h1, h2⟩ := loc ψ H (fun q _ => by rw [he]) (fun q _ => he q) (hok.refl _ _)
  refine ⟨ψ1, h1, fun q => ?_⟩
  rw [hφ1, h2]
  unfold updO upd
  rw [he]

theorem runOps_congr : ∀ {os : List AOper} {φ ψ φ1 : Fr} {H H1 : Heap}, runOps call os φ H = some (φ1, H1) → (∀ q, Fr.get φ q = Fr.get ψ q) → ∃ ψ1, runOps call os ψ H = some (ψ1, H1) ∧ ∀ q, Fr.get φ1 q = Fr.get ψ1 q
  | [], φ, ψ, φ1, H, H1, h, he => by
    simp only [runOps, Option.some.injEq, Prod.mk.injEq] at h
    obtain ⟨rfl, rfl⟩ := h
    exact ⟨ψ, rfl, he⟩
  | o :: os, φ, ψ, φ1, H, H1, h, he => by
    simp only [runOps] at h
    split at h <;> try cases h
    rename_i φa Ha hs
    obtain ⟨ψa, h1, h2⟩ := stepO_congr hs he
    obtain ⟨ψ1, h3, h4⟩ := runOps_congr h h2
    exact ⟨ψ1, by simp only [runOps, h1]; exact h3, h4⟩

/-- One operation is brought to the front. -/
theorem bubble {y : AOper} {l2 : List AOper} : ∀ {l1 : List AOper} {φ φe : Fr} {H He : Heap}, (∀ x ∈ l1, x.indep y = true) → lowOK φ H y → runOps call (l1 ++ y :: l2) φ H = some (φe, He) →
    ∃ φ1 H1 φe', stepO call y φ H = some (φ1, H1) ∧ runOps call (l1 ++ l2) φ1 H1 = some (φe', He) ∧ ∀ q, Fr.get φe' q = Fr.get φe q
  | [], φ, φe, H, He, _, _, h => by
    simp only [List.nil_append, runOps] at h
    split at h <;> try cases h
    rename_i φa Ha hs
    exact ⟨φa, Ha, φe, hs, h, fun _ => rfl⟩
  | x :: l1, φ, φe, H, He, hi, hl, h => by
    simp only [List.cons_append, runOps] at h
    split at h <;> try cases h
    rename_i φa Ha hs
    obtain ⟨φb, Hb, φe', h1, h2, h3⟩ := bubble (l1 := l1) (fun x hx => hi x (by simp [hx])) (low_next (hi x (by simp)) hs hl) h
    obtain ⟨φ3, H3, φ4, h4, h5, h6⟩ := swap (hi x (by simp)) hl hs h1
    obtain ⟨φe2, h7, h8⟩ := runOps_congr h2 (fun q => (h6 q).symm)
    exact ⟨φ3, H3, φe2, h4, by simp only [List.cons_append, runOps, h5]; exact h7, fun q => (h8 q).symm.trans (h3 q)⟩

end
end Go.AM
