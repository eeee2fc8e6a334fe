/- the maker of entrants, as a plain function; its entrants are permitted. -/
import Derived.Test.YtaejnhgnacgheaaT24
import Derived.Test.YtaejnhgnacgheaaT13
namespace Go.Proofs.Ytaejnhgnacgheaa
set_option linter.unusedVariables false
set_option linter.unusedSimpArgs false
open Go.RowKit

/-- the answer of the K-th call of next -/
def nextV (L : List Int) (K : Nat) (n : Int) : Int := match L[K]? with
  | some x => modI x n
  | none => 0
theorem nextV_bounds (L : List Int) (K : Nat) {n : Int} (hn : 0 < n) : 0 ≤ nextV L K n ∧ nextV L K n < n := by
  unfold nextV
  split
  · exact modI_bounds _ n hn
  · exact ⟨Int.le_refl _, hn⟩
def runE (f : Int) (n : Nat) : List Int := (List.range n).map fun k => f + (k : Nat)
def lotP (d : DrawL) (L : List Int) (K : Nat) : List Int :=
  let f := 1 + nextV L K (d.pool - d.pick + 1)
  if nextV L (K + 1) 2 = 1 ∧ f + (d.pick - 1) < d.pool then (runE f d.pick.toNat).set (d.pick.toNat - 1) d.pool else runE f d.pick.toNat
def balW (d : DrawL) (first : Int) (n : Nat) : List (List UInt8) := (List.range n).map fun k => (d.places.getD ((first.toNat + k) % d.places.length) ([], 0)).1
def panG (s : Int) (n : Nat) : List (List UInt8) := ((List.range n).filter fun k => decide ((s / 2 ^ k) % 2 = 1)).map fun k => wordL (k : Nat)
/-- the i-th entrant, out of the numbers from the K-th on; how many numbers were read -/
def oneE (d : DrawL) (L : List Int) (K i : Nat) : EntL × Nat :=
  if d.kind = 1 then ({ id := 101 + (i : Int), cls := 0, fam := 0, picks := lotP d L K, wishes := [], groups := [] }, K + 2)
  else if d.kind = 2 then ({ id := 101 + (i : Int), cls := nextV L K (d.cls + 1), fam := nextV L (K + 1) 4, picks := [], wishes := balW d (nextV L (K + 2) d.places.length) (nextV L (K + 3) ((d.places.length : Int) + 1)).toNat, groups := [] }, K + 4)
  else ({ id := 101 + (i : Int), cls := 0, fam := 0, picks := [], wishes := [], groups := panG (nextV L K 8) 3 }, K + 1)
def entsL (d : DrawL) (L : List Int) : Nat → List EntL × Nat
  | 0 => ([], 1)
  | i + 1 => ((entsL d L i).1 ++ [(oneE d L (entsL d L i).2 i).1], (oneE d L (entsL d L i).2 i).2)
theorem entsL_len (d : DrawL) (L : List Int) : ∀ i, (entsL d L i).1.length = i
  | 0 => rfl
  | i + 1 => by simp [entsL, entsL_len d L i]

theorem firstL_zeros {L : List Int} (h : ∀ x, x ∈ L → x = 0) : firstL L = 0 := by
  induction L with
  | nil => rfl
  | cons x L ih =>
    unfold firstL
    rw [if_pos (h x List.mem_cons_self)]
    exact ih (fun y hy => h y (List.mem_cons_of_mem _ hy))
/-- strictly growing numbers -/
def grows (L : List Int) : Prop := ∀ i j, ∀ hi : i < L.length, ∀ hj : j < L.length, i < j → L[i] < L[j]
theorem grows_nodup {L : List Int} (h : grows L) : rep L = false := by
  unfold rep
  have : L.Nodup := by
    rw [List.nodup_iff_pairwise_ne, List.pairwise_iff_getElem]
    intro i j hi hj hij
    have := h i j hi hj hij
    omega
  simp [this]
theorem grows_sorted {L : List Int} (h : grows L) : sortedB L = true :=
  sorted_good fun i hi => by have := h i (i + 1) (by omega) hi (by omega); omega
theorem runE_len (f : Int) (n : Nat) : (runE f n).length = n := by simp [runE]
theorem runE_get (f : Int) (n j : Nat) (hj : j < (runE f n).length) : (runE f n)[j] = f + j := by simp [runE]
theorem pickOf {d : DrawL} (h : Good d) (hk : d.kind = 1) (L : List Int) (K : Nat) :
    (lotP d L K).length = d.pick.toNat ∧ ∀ j, ∀ hj : j < (lotP d L K).length, 1 + (j : Int) ≤ (lotP d L K)[j] ∧ (lotP d L K)[j] ≤ d.pool ∧ (∀ i, ∀ hi : i < (lotP d L K).length, i < j → (lotP d L K)[i] < (lotP d L K)[j]) := by
  obtain ⟨⟨a1, a2, a3, a4, a5⟩, _⟩ := h.k1 hk
  have hb := nextV_bounds L K (n := d.pool - d.pick + 1) (by omega)
  obtain ⟨f, hf⟩ : ∃ f, f = 1 + nextV L K (d.pool - d.pick + 1) := ⟨_, rfl⟩
  have hf1 : 1 ≤ f := by omega
  have hf2 : f + d.pick - 1 ≤ d.pool := by omega
  have hl0 := runE_len f d.pick.toNat
  have hl : (lotP d L K).length = d.pick.toNat := by
    unfold lotP
    simp only [← hf]
    split
    · rw [List.length_set]; exact hl0
    · exact hl0
  refine ⟨hl, fun j hj => ?_⟩
  have key : ∀ i, ∀ hi : i < (lotP d L K).length, (i + 1 < d.pick.toNat → (lotP d L K)[i] = f + i) ∧ f + i ≤ (lotP d L K)[i] ∧ (lotP d L K)[i] ≤ d.pool := by
    intro i hi
    have e : lotP d L K = if nextV L (K + 1) 2 = 1 ∧ f + (d.pick - 1) < d.pool then (runE f d.pick.toNat).set (d.pick.toNat - 1) d.pool else runE f d.pick.toNat := by unfold lotP; simp only [← hf]
    have hi2 : i < d.pick.toNat := by omega
    simp only [e]
    split
    · rename_i hc
      rw [List.getElem_set]
      split
      · rename_i hij
        exact ⟨fun h => by omega, by omega, Int.le_refl _⟩
      · rw [runE_get]
        exact ⟨fun _ => rfl, by omega, by omega⟩
    · rw [runE_get]
      exact ⟨fun _ => rfl, by omega, by omega⟩
  obtain ⟨k1, k2, k3⟩ := key j hj
  refine ⟨by omega, k3, fun i hi hij => ?_⟩
  have := (key i hi).1 (by omega)
  omega
theorem balW_len (d : DrawL) (first : Int) (n : Nat) : (balW d first n).length = n := by simp [balW]
theorem rep_false {α : Type} [DecidableEq α] {L : List α} (h : L.Nodup) : rep L = false := by unfold rep; simp [h]
theorem rep_nodup {α : Type} [DecidableEq α] {L : List α} (h : rep L = false) : L.Nodup := by unfold rep at h; simpa using h
theorem firstL_all {L : List Int} (h : firstL L = 0) : ∀ x, x ∈ L → x = 0 := by
  induction L with
  | nil => intro x hx; cases hx
  | cons y L ih =>
    unfold firstL at h
    split at h
    · rename_i hy
      intro x hx
      rcases List.mem_cons.1 hx with e | e
      · rw [e]; exact hy
      · exact ih h x e
    · rename_i hy; exact absurd h hy
theorem unl_good {b : Bool} {x : Int} (h : unl b x = 0) (hx : x ≠ 0) : b = true := by
  cases b
  · exact absurd h hx
  · rfl
theorem places_facts {d : DrawL} (h : placesL d = 0) : 1 ≤ d.places.length ∧ d.places.length ≤ 12 ∧ (d.places.map (·.1)).Nodup := by
  unfold placesL at h
  have ha := firstL_all h
  have h1 := unl_good (ha (unl (inR d.places.length 1 12) 2) (by simp)) (by decide)
  have h4 := unl_good (ha (unl (!rep (d.places.map (·.1))) 33) (by simp)) (by decide)
  simp only [inR, Bool.and_eq_true, decide_eq_true_eq] at h1
  exact ⟨by omega, by omega, rep_nodup (by simpa using h4)⟩
theorem balW_nodup {d : DrawL} (hn : (d.places.map (·.1)).Nodup) (hl : 0 < d.places.length) (first : Int) {n : Nat} (h : n ≤ d.places.length) : (balW d first n).Nodup := by
  rw [List.nodup_iff_pairwise_ne, List.pairwise_iff_getElem]
  intro i j hi hj hij
  rw [balW_len] at hi hj
  simp only [balW, List.getElem_map, List.getElem_range]
  have m1 : (first.toNat + i) % d.places.length < d.places.length := Nat.mod_lt _ hl
  have m2 : (first.toNat + j) % d.places.length < d.places.length := Nat.mod_lt _ hl
  have hne : (first.toNat + i) % d.places.length ≠ (first.toNat + j) % d.places.length := by
    intro e
    have e2 : (first.toNat + j - (first.toNat + i)) % d.places.length = 0 := Nat.sub_mod_eq_zero_of_mod_eq e.symm
    have e3 : first.toNat + j - (first.toNat + i) = j - i := by omega
    rw [e3, Nat.mod_eq_of_lt (by omega)] at e2
    omega
  intro e
  rw [List.getD_eq_getElem?_getD, List.getD_eq_getElem?_getD, List.getElem?_eq_getElem m1, List.getElem?_eq_getElem m2] at e
  simp only [Option.getD_some] at e
  rw [List.nodup_iff_pairwise_ne, List.pairwise_iff_getElem] at hn
  rcases Nat.lt_or_gt_of_ne hne with hlt | hlt
  · exact hn _ _ (by simpa using m1) (by simpa using m2) hlt (by simpa using e)
  · exact hn _ _ (by simpa using m2) (by simpa using m1) hlt (by simpa using e.symm)
theorem balW_known {d : DrawL} (hl : 0 < d.places.length) (first : Int) (n : Nat) : (balW d first n).all (knownL d) = true := by
  rw [List.all_eq_true]
  intro x hx
  obtain ⟨k, _, rfl⟩ := List.mem_map.1 hx
  have m1 : (first.toNat + k) % d.places.length < d.places.length := Nat.mod_lt _ hl
  unfold knownL
  rw [List.any_eq_true]
  refine ⟨d.places[(first.toNat + k) % d.places.length], List.getElem_mem _, ?_⟩
  rw [List.getD_eq_getElem?_getD, List.getElem?_eq_getElem m1]
  simp
theorem panG_facts (s : Int) : (panG s 3).length ≤ 3 ∧ (panG s 3).all isWord = true ∧ rep (panG s 3) = false := by
  have hr : List.range 3 = [0, 1, 2] := rfl
  unfold panG
  rw [hr]
  simp only [List.filter_cons, List.filter_nil]
  cases decide (s / 2 ^ 0 % 2 = 1) <;> cases decide (s / 2 ^ 1 % 2 = 1) <;> cases decide (s / 2 ^ 2 % 2 = 1) <;> simp only [Bool.false_eq_true, if_true, if_false, List.map_cons, List.map_nil] <;> decide
theorem not_barred {d : DrawL} (h : Good d) {x : Int} (hx : 100 ≤ x) : (d.barred.any fun y => decide (y = x)) = false := by
  rw [List.any_eq_false]
  intro y hy
  have := h.low y hy
  simp; omega
/-- the made entrants are permitted -/
theorem oneE_ok {d : DrawL} (h : Good d) (L : List Int) (K : Nat) {i : Nat} (hi : i < 1000) : entrantL d (oneE d L K i).1 = 0 := by
  unfold entrantL
  rw [h.run]
  simp only [ne_eq, not_true_eq_false, if_false]
  refine firstL_zeros fun x hx => ?_
  have hid : (oneE d L K i).1.id = 101 + (i : Int) := by unfold oneE; split <;> (try split) <;> rfl
  unfold listL at hx
  rw [hid, not_barred h (by omega), inR_of (by omega) (by omega)] at hx
  simp only [List.mem_cons, List.not_mem_nil, or_false] at hx
  rcases hx with rfl | rfl | rfl | rfl
  · rfl
  · rfl
  · have : ownL d (oneE d L K i).1 = true := by
      unfold oneE ownL ballotL
      rcases h.kind with hk | hk | hk
      · simp [hk]
      · simp [hk]
      · simp [hk]
    rw [this]; rfl
  · rcases h.kind with hk | hk | hk
    · have e : (oneE d L K i).1 = { id := 101 + (i : Int), cls := 0, fam := 0, picks := lotP d L K, wishes := [], groups := [] } := by unfold oneE; rw [if_pos hk]
      rw [show moreL d (oneE d L K i).1 = picksL d (oneE d L K i).1 from if_pos hk, e]
      obtain ⟨hl, hp⟩ := pickOf h hk L K
      have hg : grows (lotP d L K) := fun a b ha hb hab => (hp b hb).2.2 a ha hab
      unfold picksL
      obtain ⟨⟨a1, a2, a3, a4, a5⟩, _⟩ := h.k1 hk
      have h1 : decide (((lotP d L K).length : Int) = d.pick) = true := decide_eq_true (by omega)
      have h2 : ((lotP d L K).all fun n => inR n 1 d.pool) = true := by
        rw [List.all_eq_true]
        intro x hx
        obtain ⟨j, hj, rfl⟩ := List.mem_iff_getElem.1 hx
        have := hp j hj
        exact inR_of (by omega) this.2.1
      show unl (((decide (((lotP d L K).length : Int) = d.pick) && (lotP d L K).all fun n => inR n 1 d.pool) && sortedB (lotP d L K)) && !rep (lotP d L K)) 15 = 0
      rw [h1, h2, grows_sorted hg, grows_nodup hg]
      rfl
    · obtain ⟨hpl, ⟨hc1, hc2⟩, _⟩ := h.k2 hk
      obtain ⟨p1, p2, p3⟩ := places_facts hpl
      have e : (oneE d L K i).1 = { id := 101 + (i : Int), cls := nextV L K (d.cls + 1), fam := nextV L (K + 1) 4, picks := [], wishes := balW d (nextV L (K + 2) d.places.length) (nextV L (K + 3) ((d.places.length : Int) + 1)).toNat, groups := [] } := by unfold oneE; rw [if_neg (by omega), if_pos hk]
      rw [show moreL d (oneE d L K i).1 = wishesL d (oneE d L K i).1 by unfold moreL; rw [if_neg (by omega), if_pos hk], e]
      have b1 := nextV_bounds L K (n := d.cls + 1) (by omega)
      have b2 := nextV_bounds L (K + 1) (n := 4) (by omega)
      have b4 := nextV_bounds L (K + 3) (n := (d.places.length : Int) + 1) (by omega)
      obtain ⟨n, hn⟩ : ∃ n, n = (nextV L (K + 3) ((d.places.length : Int) + 1)).toNat := ⟨_, rfl⟩
      rw [← hn]
      have hnl : n ≤ d.places.length := by omega
      refine firstL_zeros fun x hx => ?_
      simp only [List.mem_cons, List.not_mem_nil, or_false, balW_len, balW_known (show 0 < d.places.length by omega), rep_false (balW_nodup p3 (by omega) _ hnl), inR_of b1.1 (show nextV L K (d.cls + 1) ≤ d.cls by omega), inR_of b2.1 (show nextV L (K + 1) 4 ≤ 1000000000 by omega), decide_eq_true (show (n : Int) ≤ d.places.length by omega)] at hx
      rcases hx with rfl | rfl | rfl | rfl <;> rfl
    · have e : (oneE d L K i).1 = { id := 101 + (i : Int), cls := 0, fam := 0, picks := [], wishes := [], groups := panG (nextV L K 8) 3 } := by unfold oneE; rw [if_neg (by omega), if_neg (by omega)]
      rw [show moreL d (oneE d L K i).1 = groupsL (oneE d L K i).1 by unfold moreL; rw [if_neg (by omega), if_neg (by omega)], e]
      obtain ⟨g1, g2, g3⟩ := panG_facts (nextV L K 8)
      refine firstL_zeros fun x hx => ?_
      simp only [List.mem_cons, List.not_mem_nil, or_false, g2, g3, decide_eq_true (show ((panG (nextV L K 8) 3).length : Int) ≤ 12 by omega)] at hx
      rcases hx with rfl | rfl | rfl <;> rfl
theorem entsL_ok {d : DrawL} (h : Good d) (L : List Int) : ∀ i, i < 1000 → ∀ e, e ∈ (entsL d L i).1 → entrantL d e = 0
  | 0, _, e, he => by cases he
  | i + 1, hi, e, he => by
    rcases List.mem_append.1 he with h1 | h1
    · exact entsL_ok h L i (by omega) e h1
    · rw [List.mem_singleton.1 h1]
      exact oneE_ok h L _ (by omega)
end Go.Proofs.Ytaejnhgnacgheaa
