/-
  Sites: what is read of a text, in the program.
-/
import Derived.Test.YtjbedlhjjhnciaaDoorSiteD
import Derived.Test.YtjbedlhjjhnciaaDoorSpl
namespace Go.AM.Spec
set_option linter.unusedVariables false
set_option linter.unusedSimpArgs false
set_option maxHeartbeats 1000000
set_option maxRecDepth 10000

/-- The last kind below j with that word; none: 0. -/
def kindTo (w : List UInt8) : Nat → Int
  | 0 => 0
  | j + 1 => if siteWords[j]? = some w then (j : Int) else kindTo w j

def Si.putN (s : Si) (i : Nat) (n : Int) : Si := if i = 0 then { s with part := n } else { s with way := s.way.set (i - 1) n }

def numOK (w : List UInt8) : Bool := (readR w).2 && decide ((readR w).1 ≤ 511)

def readNums (s : Si) : Nat → List (List UInt8) → Option Si
  | _, [] => some s
  | i, w :: ws => if numOK w = true then readNums (s.putN i (readR w).1) (i + 1) ws else none

def zeroSi : Si := ⟨0, 0, List.replicate 8 0, 0⟩

def startSi (k d : Int) : Si := ⟨k, 0, List.replicate 8 0, d⟩

def afterNums : Option Si → Si × Bool
  | none => (zeroSi, false)
  | some s => if s.name.2 = true then (s, true) else (zeroSi, false)

/-- What is read of a text. -/
def readSi (t : List UInt8) : Si × Bool :=
  let l := splitOn 32 t
  if l.length < 3 ∨ 10 < l.length then (zeroSi, false) else afterNums (readNums (startSi (kindTo ((l[0]?).getD []) 9) ((l.length : Int) - 2)) 0 (l.drop 1))

theorem Si.ok_putN {s : Si} (ok : s.ok) (i : Nat) (n : Int) : (s.putN i n).ok := by
  unfold Si.putN
  split
  · exact ok
  · show (s.way.set (i - 1) n).length = 8
    rw [List.length_set]; exact ok
theorem Si.put0 (s : Si) (k : Int) : s.cells.set 0 (iv k) = ({ s with kind := k } : Si).cells := rfl
theorem Si.put1 (s : Si) (n : Int) : s.cells.set 1 (iv n) = (s.putN 0 n).cells := rfl
theorem Si.put2 {s : Si} (ok : s.ok) {i : Nat} (hi : i < 8) (n : Int) : s.cells.set (2 + i) (iv n) = (s.putN (i + 1) n).cells := by
  have h8 : s.way.length = 8 := ok
  have e : s.putN (i + 1) n = { s with way := s.way.set i n } := by unfold Si.putN; rw [if_neg (by omega)]; rfl
  rw [e, Nat.add_comm]
  simp only [Si.cells, List.set_cons_succ]
  rw [List.set_append_left _ _ (by simpa [h8] using hi), List.map_set]

theorem tx_get (l : List (List UInt8)) (i : Nat) : (l.map tx)[i]? = (l[i]?).map tx := List.getElem?_map ..

theorem rkind_loop (n : Nat) (A B : Heap) (hA : A.length = n) (L : List (List UInt8)) (w : List UInt8) (hw : L[0]? = some w) (v2 : V) (call : CallF) (Q : Option (V × Heap) → Prop) (k : List Item) (s : Si) (ok : s.ok)
    (hexit : ∀ φ', Fr.get φ' 2 = v2 → Fr.get φ' 4 = .sl 1 (L.map tx) → Fr.get φ' 5 = .ptr n 0 → Q (M call k φ' (A ++ some ({ s with kind := kindTo w 9 } : Si).cells :: B))) :
    ∀ (j i : Nat) (φ : Fr), i + j = 9 → Fr.get φ 2 = v2 → Fr.get φ 4 = .sl 1 (L.map tx) → Fr.get φ 5 = .ptr n 0 → Fr.get φ 29 = .sl 1 (siteWords.map tx) → Fr.get φ 30 = iv 9 → Fr.get φ 31 = iv i →
      Q (M call (.code l_site_Read_0 :: .blk 0 :: k) φ (A ++ some ({ s with kind := kindTo w i } : Si).cells :: B)) := by
  have e9 : siteWords.length = 9 := rfl
  have h0 : (L.map tx)[0]? = some (tx w) := by rw [tx_get, hw]; rfl
  have htw : tx w = [V.str w] := rfl
  have hlen0 : 0 < L.length := by
    cases L with
    | nil => cases hw
    | cons a b => simp
  have hg0 : ∀ h : 0 < L.length, L[0] = w := fun h => by
    rw [List.getElem?_eq_getElem h] at hw
    exact Option.some.inj hw
  intro j
  induction j with
  | zero =>
    intro i φ hi h2 h4 h5 h29 h30 h31
    obtain rfl : i = 9 := by omega
    rw [l_site_Read_0, M_loop]
    simp [b_site_Read_0, h2, h4, h5, h29, h30, h31]
    exact hexit _ (by simp [h2]) (by simp [h4]) (by simp [h5])
  | succ j ih =>
    intro i φ hi h2 h4 h5 h29 h30 h31
    have hlt : i < siteWords.length := by omega
    obtain ⟨u, hu⟩ : ∃ u, u = siteWords[i] := ⟨_, rfl⟩
    have hu' : siteWords[i]? = some u := by rw [hu]; exact List.getElem?_eq_getElem hlt
    have hr : (siteWords.map tx)[i]? = some (tx u) := by rw [tx_get, hu']; rfl
    have e1 : (i : Int) < 9 := by omega
    have e2 : IntKind.i64.wrap ((i : Int) + 1) = ((i + 1 : Nat) : Int) := by rw [w64] <;> omega
    have hc := Si.len (s := { s with kind := kindTo w i }) ok
    have hs0 := Si.put0 ({ s with kind := kindTo w i } : Si) i
    obtain ⟨K, hK⟩ : ∃ K, K = ({ s with kind := kindTo w i } : Si).cells := ⟨_, rfl⟩
    rw [← hK] at hc hs0 ⊢
    have hset : (A ++ some K :: B).set n (some (({ s with kind := (i : Int) } : Si).cells)) = A ++ some (({ s with kind := (i : Int) } : Si).cells) :: B := by rw [← hA]; exact set0 ..
    have hgn : (A ++ some K :: B)[n]? = some (some K) := by rw [← hA]; exact get0 ..
    rw [l_site_Read_0, M_loop, ← l_site_Read_0]
    by_cases a1 : u = w
    · have hk : ({ s with kind := kindTo w (i + 1) } : Si) = { s with kind := (i : Int) } := by
        rw [kindTo, if_pos (by rw [hu', a1])]
      have := ih (i + 1)
      rw [hk] at this
      simp only [tx] at h0 hr
      simp [b_site_Read_0, h2, h4, h5, h29, h30, h31, h0, hr, e1, e2, a1, hgn, hc, hs0, hset, e9, hlt, hlen0, hg0, htw]
      refine this _ (by omega) ?_ ?_ ?_ ?_ ?_ ?_ <;> simp [h2, h4, h5, h29, h30]
    · have hk : ({ s with kind := kindTo w (i + 1) } : Si).cells = K := by
        rw [hK, kindTo, if_neg (by rw [hu']; intro h; exact a1 (Option.some.inj h))]
      have := ih (i + 1)
      rw [hk] at this
      simp only [tx] at h0 hr
      simp [b_site_Read_0, h2, h4, h5, h29, h30, h31, h0, hr, e1, e2, a1, e9, hlt, hlen0, hg0, htw]
      refine this _ (by omega) ?_ ?_ ?_ ?_ ?_ ?_ <;> simp [h2, h4, h5, h29, h30]

end Go.AM.Spec
