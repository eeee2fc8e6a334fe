/- permitted rules, as the maker makes them: plain laws. -/
import Derived.Test.YtaejnhgnacgheaaT9
namespace Go.Proofs.Ytaejnhgnacgheaa
set_option linter.unusedVariables false
set_option linter.unusedSimpArgs false

structure Good (d : DrawL) : Prop where
  name : isWord d.name = true
  kind : d.kind = 1 ∨ d.kind = 2 ∨ d.kind = 3
  round : 1 ≤ d.round ∧ d.round ≤ 9
  price : 0 ≤ d.price ∧ d.price ≤ 8
  bar : d.barred.length ≤ 2 ∧ d.barred.Nodup
  k1 : d.kind = 1 → (2 ≤ d.pool ∧ d.pool ≤ 7 ∧ 1 ≤ d.pick ∧ d.pick ≤ 4 ∧ d.pick ≤ d.pool) ∧ tiersL d = 0 ∧ d.places = [] ∧ d.cls = 0 ∧ d.size = 0 ∧ d.quotas = []
  k2 : d.kind = 2 → placesL d = 0 ∧ (0 ≤ d.cls ∧ d.cls ≤ 2) ∧ d.pool = 0 ∧ d.pick = 0 ∧ d.tiers = [] ∧ d.roll = false ∧ d.size = 0 ∧ d.quotas = []
  k3 : d.kind = 3 → (1 ≤ d.size ∧ d.size ≤ 3) ∧ quotasL d = 0 ∧ d.pool = 0 ∧ d.pick = 0 ∧ d.tiers = [] ∧ d.roll = false ∧ d.places = [] ∧ d.cls = 0
  low : ∀ b, b ∈ d.barred → b < 100

theorem inR_of {n a b : Int} (h1 : a ≤ n) (h2 : n ≤ b) : inR n a b = true := by simp [inR, h1, h2]
theorem Good.own {d : DrawL} (h : Good d) : foreignL d = false := by
  unfold foreignL
  rcases h.kind with hk | hk | hk
  · obtain ⟨_, _, h1, h2, h3, h4⟩ := h.k1 hk
    simp [hk, h1, h2, h3, h4]
  · obtain ⟨_, _, h1, h2, h3, h4, h5, h6⟩ := h.k2 hk
    simp [hk, h1, h2, h3, h4, h5, h6]
  · obtain ⟨_, _, h1, h2, h3, h4, h5, h6⟩ := h.k3 hk
    simp [hk, h1, h2, h3, h4, h5, h6]
theorem Good.inKind {d : DrawL} (h : Good d) : inR d.kind 1 3 = true := by rcases h.kind with hk | hk | hk <;> rw [hk] <;> rfl
theorem Good.rep {d : DrawL} (h : Good d) : rep d.barred = false := by unfold Proofs.Ytaejnhgnacgheaa.rep; simp [h.bar.2]
/-- permitted -/
theorem Good.check {d : DrawL} (h : Good d) : checkR d = ([], 0) := by
  unfold checkR
  rw [h.name, h.inKind, h.own, inR_of h.round.1 (by have := h.round.2; omega : d.round ≤ 1000000000), inR_of h.price.1 (by have := h.price.2; omega : d.price ≤ 1000000), h.rep]
  have h40 : ¬ 40 < d.barred.length := by have := h.bar.1; omega
  simp only [h40, Bool.true_eq_false, Bool.false_eq_true, or_self, if_false]
  rcases h.kind with hk | hk | hk
  · obtain ⟨⟨a1, a2, a3, a4, a5⟩, ht, _⟩ := h.k1 hk
    rw [if_pos hk, inR_of (by omega : (1 : Int) ≤ d.pool) (by omega), inR_of a3 (by split <;> omega), ht]
    simp
  · obtain ⟨hp, ⟨a1, a2⟩, _⟩ := h.k2 hk
    rw [if_neg (by omega), if_pos hk, hp, inR_of a1 (by omega : d.cls ≤ 9)]
    simp
  · obtain ⟨⟨a1, a2⟩, hq, _⟩ := h.k3 hk
    rw [if_neg (by omega), if_neg (by omega), if_pos hk, hq, inR_of a1 (by omega : d.size ≤ 40)]
    simp
theorem Good.run {d : DrawL} (h : Good d) : runC d clausesL = ([], 0) := by rw [← checkR_eq]; exact h.check
/-- an earlier round, a lesser price, fewer barred: permitted -/
theorem Good.less {d : DrawL} (h : Good d) {r p : Int} {B : List Int} (hr : 1 ≤ r ∧ r ≤ 9) (hp : 0 ≤ p ∧ p ≤ 8) (hB : B.length ≤ 2 ∧ B.Nodup) (hl : ∀ b, b ∈ B → b < 100) : Good { d with round := r, price := p, barred := B } :=
  ⟨h.name, h.kind, hr, hp, hB, h.k1, h.k2, h.k3, hl⟩
theorem Good.round0 {d : DrawL} (h : Good d) : runC { d with round := 0 } clausesL = ([114, 111, 117, 110, 100], 15) := by
  rw [← checkR_eq]
  unfold checkR
  have e1 : isWord ({ d with round := 0 } : DrawL).name = true := h.name
  have e2 : inR ({ d with round := 0 } : DrawL).kind 1 3 = true := h.inKind
  have e3 : foreignL { d with round := 0 } = false := h.own
  rw [e1, e2, e3]
  simp [inR]
theorem Good.price1 {d : DrawL} (h : Good d) : runC { d with price := -1 } clausesL = ([112, 114, 105, 99, 101], 15) := by
  rw [← checkR_eq]
  unfold checkR
  have e1 : isWord ({ d with price := -1 } : DrawL).name = true := h.name
  have e2 : inR ({ d with price := -1 } : DrawL).kind 1 3 = true := h.inKind
  have e3 : foreignL { d with price := -1 } = false := h.own
  have e4 : inR ({ d with price := -1 } : DrawL).round 1 1000000000 = true := inR_of h.round.1 (by have := h.round.2; show d.round ≤ _; omega)
  rw [e1, e2, e3, e4]
  simp [inR]

/-- the lists that the maker makes -/
theorem tiers_good {d : DrawL} (h1 : 1 ≤ d.tiers.length ∧ d.tiers.length ≤ 3) (h2 : (d.tiers.length : Int) ≤ d.pick + 1) (h3 : ∀ i, ∀ hi : i < d.tiers.length, d.tiers[i].1 = d.pick - i ∧ 1 ≤ d.tiers[i].2 ∧ d.tiers[i].2 ≤ 33) : tiersL d = 0 := by
  have hall : d.tiers.all (tierOk d.pick) = true := by
    rw [List.all_eq_true]
    intro t ht
    obtain ⟨i, hi, rfl⟩ := List.mem_iff_getElem.1 ht
    obtain ⟨a, b, c⟩ := h3 i hi
    unfold tierOk
    rw [a, inR_of (by omega) (by omega), inR_of b (by omega)]
    rfl
  have hnd : rep (d.tiers.map (·.1)) = false := by
    unfold rep
    have : (d.tiers.map (·.1)).Nodup := by
      rw [List.nodup_iff_pairwise_ne, List.pairwise_iff_getElem]
      intro i j hi hj hij
      simp only [List.length_map] at hi hj
      simp only [List.getElem_map]
      rw [(h3 i hi).1, (h3 j hj).1]
      omega
    simp [this]
  have hs : (d.tiers.map (·.2)).sum ≤ 100 := by
    have hbd : ∀ M : List (Int × Int), (∀ t, t ∈ M → t.2 ≤ 33) → (M.map (·.2)).sum ≤ 33 * M.length := by
      intro M
      induction M with
      | nil => intro _; simp
      | cons t M ih =>
        intro hM
        have := ih (fun u hu => hM u (List.mem_cons_of_mem _ hu))
        have := hM t List.mem_cons_self
        simp only [List.map_cons, List.sum_cons, List.length_cons]
        omega
    have := hbd d.tiers (fun t ht => by
      obtain ⟨i, hi, rfl⟩ := List.mem_iff_getElem.1 ht
      exact (h3 i hi).2.2)
    omega
  unfold tiersL
  rw [hall, hnd, inR_of (by omega : (1 : Int) ≤ (d.tiers.length : Int)) (by omega), if_pos rfl, decide_eq_true hs]
  rfl
end Go.Proofs.Ytaejnhgnacgheaa
