/- journal: Open, whatever the disk. -/
import Derived.Test.YtcbpgmoegfkhnaaJopenB
namespace Go.Proofs.Ytcbpgmoegfkhnaa
set_option linter.unusedVariables false
open Go.RowKit

theorem recsL_small (c : List UInt8) (hc : c.length ≤ 16777216) (e : Nat) : ∀ (f a : Nat) (x : List UInt8 × Bool), x ∈ recsL c f a e → x.1.length ≤ 16777216
  | 0, _, x, h => by simp [recsL] at h
  | f + 1, a, x, h => by
    simp only [recsL] at h
    split at h
    · split at h
      · simp at h; rw [h]; simp
      · rcases List.mem_cons.1 h with h | h
        · rw [h]; exact Nat.le_trans (readL_length _ _ _) hc
        · exact recsL_small c hc e f _ x h
    · simp at h
theorem recs_lift : ∀ (l : List (List UInt8 × Bool)), (∀ x, x ∈ l → x.1.length ≤ 16777216) → ∃ R : List Rec, R.map (·.1) = l
  | [], _ => ⟨[], rfl⟩
  | x :: l, h => by
    obtain ⟨R, hR⟩ := recs_lift l (fun y hy => h y (by simp [hy]))
    exact ⟨⟨x, h x (by simp)⟩ :: R, by simp [hR]⟩

/-- What Open does. -/
def OpenPost (W : World) (m : List Item) (i bd : Nat) (s : DSt) (e : Ending) (w' : World) : Prop :=
  if (syncSt s).1 = 0 then
    match openedL (syncSt s).2.now with
    | none => OpenNo W (m.set i (.disk bd (syncSt s).2)) 11 e w'
    | some (n, L) => OpenYes W (m.set i (.disk bd (syncSt s).2)) bd n L e w'
  else OpenNo W (m.set i (.disk bd (syncSt s).2)) (syncSt s).1 e w'
theorem open_any {W w : World} {m : List Item} (h : Own W w m) (i : Nat) {b : Nat} {s : DSt} (hi : m[i]? = some (.disk b s)) {n : Nat} (hf : Fit n s) (hn : n ≤ 1500) :
    Calls Try.prog 11 #[.pointer (some ⟨b, 0, none⟩)] w (OpenPost W m i b s) := by
  have hf1 := hf.sync
  obtain ⟨r, s1, hs⟩ : ∃ r s1, syncSt s = (r, s1) := ⟨_, _, rfl⟩
  rw [hs] at hf1
  dsimp only at hf1
  by_cases hr : r = 0
  · subst hr
    by_cases hv : valI (readL s1.now 0 8) 8 < 0 ∨ 16777216 < valI (readL s1.now 0 8) 8 ∨ (0 < valI (readL s1.now 0 8) 8 ∧ (s1.now.length : Int) < 64 + valI (readL s1.now 0 8) 8)
    · refine (open_head h i hi hf hn hs hv).mono fun e w' hp => ?_
      unfold OpenPost openedL
      rw [hs]
      dsimp only
      rw [if_pos rfl, if_pos hv]
      exact hp
    · obtain ⟨N, hN⟩ : ∃ N : Nat, valI (readL s1.now 0 8) 8 = N := ⟨(valI (readL s1.now 0 8) 8).toNat, by omega⟩
      obtain ⟨R, hR⟩ := recs_lift (recsL s1.now N 64 (64 + N)) (recsL_small _ hf1.now _ _ _)
      refine (open_body h i hi hf hn hs hN (by omega) (by omega) R hR).mono fun e w' hp => ?_
      unfold OpenPost openedL
      rw [hs]
      dsimp only
      rw [if_pos rfl, if_neg hv, hN, Int.toNat_natCast, ← hR]
      have e1 : (R.map (·.1)).all (·.2) = R.all (·.1.2) := by simp [List.all_map, Function.comp_def]
      rw [e1]
      split at hp
      · rename_i ha
        rw [if_pos ha]
        simpa [List.map_map, Function.comp_def] using hp
      · rename_i ha
        rw [if_neg ha]
        exact hp
  · refine (open_dead h i hi hf hn hr hs).mono fun e w' hp => ?_
    unfold OpenPost
    rw [hs]
    dsimp only
    rw [if_neg hr]
    exact hp
end Go.Proofs.Ytcbpgmoegfkhnaa
