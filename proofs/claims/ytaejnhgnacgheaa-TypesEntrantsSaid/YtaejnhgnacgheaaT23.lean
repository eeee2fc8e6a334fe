/- permitted rules: the names that the maker gives. -/
import Derived.Test.YtaejnhgnacgheaaT22
import Derived.Test.YtaejnhgnacgheaaT19
namespace Go.Proofs.Ytaejnhgnacgheaa
set_option linter.unusedVariables false
set_option linter.unusedSimpArgs false

theorem word_good {i : Nat} (h : i < 3) : isWord (wordL i) = true := by
  have : i = 0 ∨ i = 1 ∨ i = 2 := by omega
  rcases this with rfl | rfl | rfl <;> decide
theorem word_apart {i j : Nat} (hj : j < 3) (h : i < j) : wordL i ≠ wordL j := by
  have hc : (i = 0 ∧ j = 1) ∨ (i = 0 ∧ j = 2) ∨ (i = 1 ∧ j = 2) := by omega
  rcases hc with ⟨rfl, rfl⟩ | ⟨rfl, rfl⟩ | ⟨rfl, rfl⟩ <;> decide
theorem names_good {L : List (List UInt8)} (hl : L.length ≤ 3) (h : ∀ i, ∀ hi : i < L.length, L[i] = wordL i) : L.all isWord = true ∧ rep L = false := by
  constructor
  · rw [List.all_eq_true]
    intro x hx
    obtain ⟨i, hi, rfl⟩ := List.mem_iff_getElem.1 hx
    rw [h i hi]
    exact word_good (by omega)
  · unfold rep
    have : L.Nodup := by
      rw [List.nodup_iff_pairwise_ne, List.pairwise_iff_getElem]
      intro i j hi hj hij
      rw [h i hi, h j hj]
      exact word_apart (by omega) hij
    simp [this]
theorem places_good {d : DrawL} (h1 : 1 ≤ d.places.length ∧ d.places.length ≤ 3) (h3 : ∀ i, ∀ hi : i < d.places.length, d.places[i].1 = wordL i ∧ 1 ≤ d.places[i].2 ∧ d.places[i].2 ≤ 3) : placesL d = 0 := by
  obtain ⟨ha, hr⟩ := names_good (L := d.places.map (·.1)) (by simpa using h1.2) (fun i hi => by
    simp only [List.getElem_map]
    exact (h3 i (by simpa using hi)).1)
  have hall : d.places.all placeOk = true := by
    rw [List.all_eq_true]
    intro t ht
    obtain ⟨i, hi, rfl⟩ := List.mem_iff_getElem.1 ht
    obtain ⟨a, b, c⟩ := h3 i hi
    exact inR_of b (by omega)
  unfold placesL
  rw [ha, hr, hall, inR_of (by omega : (1 : Int) ≤ (d.places.length : Int)) (by omega)]
  rfl
theorem quotas_good {d : DrawL} (h1 : d.quotas.length ≤ 2) (h3 : ∀ i, ∀ hi : i < d.quotas.length, d.quotas[i].1 = wordL i ∧ 0 ≤ d.quotas[i].2.1 ∧ d.quotas[i].2.1 ≤ d.quotas[i].2.2 ∧ d.quotas[i].2.2 ≤ d.size) : quotasL d = 0 := by
  obtain ⟨ha, hr⟩ := names_good (L := d.quotas.map (·.1)) (by simp; omega) (fun i hi => by
    simp only [List.getElem_map]
    exact (h3 i (by simpa using hi)).1)
  have hall : d.quotas.all (quotaOk d.size) = true := by
    rw [List.all_eq_true]
    intro t ht
    obtain ⟨i, hi, rfl⟩ := List.mem_iff_getElem.1 ht
    obtain ⟨a, b, c, e⟩ := h3 i hi
    unfold quotaOk
    rw [inR_of b c, decide_eq_true e]
    rfl
  unfold quotasL
  rw [ha, hr, hall, decide_eq_true (by omega)]
  rfl
theorem barred_good {B : List Int} (h : ∀ i, ∀ hi : i < B.length, 5 * (i : Int) ≤ B[i] ∧ B[i] < 5 * (i : Int) + 4) : B.Nodup := by
  rw [List.nodup_iff_pairwise_ne, List.pairwise_iff_getElem]
  intro i j hi hj hij
  have h1 := h i hi
  have h2 := h j hj
  omega
theorem name_good (r : Int) : isWord (120 :: wordL r) = true := by
  have hb := modI_bounds r 6 (by decide)
  unfold wordL
  have hc : modI r 6 = 0 ∨ modI r 6 = 1 ∨ modI r 6 = 2 ∨ modI r 6 = 3 ∨ modI r 6 = 4 ∨ modI r 6 = 5 := by omega
  rcases hc with h | h | h | h | h | h <;> rw [h] <;> decide
end Go.Proofs.Ytaejnhgnacgheaa
