/- Small facts for the laws' walks. -/
import Derived.Test.YtacghhgiilhkfaaSane
namespace Go.Proofs.Ytacghhgiilhkfaa
set_option linter.unusedVariables false
open Go.RowKit

theorem modI_nat (n m : Int) (hm : 0 < m) : ∃ k : Nat, modI n m = k ∧ (k : Int) < m := ⟨(modI n m).toNat, by have := modI_bounds n m hm; omega, by have := modI_bounds n m hm; omega⟩
theorem min_nat (n m : Nat) : ∃ q : Nat, (if (m : Int) < n then (m : Int) else n) = q ∧ q ≤ m ∧ q ≤ n := by
  by_cases h : (m : Int) < n
  · exact ⟨m, by rw [if_pos h], Nat.le_refl _, by omega⟩
  · exact ⟨n, by rw [if_neg h], by omega, Nat.le_refl _⟩
theorem writeSt_ok {s : DSt} {l : List UInt8} (off : Nat) (h : off + l.length ≤ 16777216) (hs : s.failing = false) : writeSt s off l = (0, wroteSt s off l) := by
  unfold writeSt
  rw [if_neg (by unfold Bad; omega), if_neg (by unfold Dead; simp [hs])]
  rfl
theorem rwriteSt_ok {s : DSt} {l : List UInt8} (off : Nat) (h : off + l.length ≤ 16777216) (hs : s.failing = false) : rwriteSt s off l = (0, rwroteSt s off l) := by
  unfold rwriteSt
  rw [if_neg (by unfold Bad; omega), if_neg (by unfold Dead; simp [hs])]
  rfl
theorem syncSt_ok {s : DSt} (hs : s.failing = false) : syncSt s = (0, syncedSt s) := by
  unfold syncSt
  rw [if_neg (by unfold Dead; simp [hs])]
theorem Fit.synced {n : Nat} {s : DSt} (h : Fit n s) : Fit (n + 1) (syncedSt s) := by
  have h3 := h.hi; have h4 := h.lo; have h5 := h.left; have h6 := h.left2
  refine ⟨h.now, h.now, by simp [syncedSt], ?_, ?_, ?_, ?_, by simp [syncedSt]⟩
  · simp only [syncedSt]; omega
  · simp only [syncedSt]; omega
  · simp only [syncedSt]; split <;> omega
  · simp only [syncedSt]; split <;> omega
theorem Own.erase {W w : World} {m : List Item} (h : Own W w m) (k : Nat) : Own W w (m.eraseIdx k) := by
  refine h.pick (fun i => if i < k then i else i + 1) ?_ ?_
  · intro i j
    split <;> split <;> omega
  · intro i it hi
    rw [List.getElem?_eraseIdx] at hi
    split <;> simp_all
theorem where_in64 {a : ActL} (h : in64 a.off) : in64 (whereI a) := by
  unfold whereI
  split
  · exact h
  · have := modI_bounds a.off 300 (by decide)
    unfold in64
    omega
theorem Own.drew {W w : World} {m : List Item} (h : Own W w m) : Own W w.drew m := h.far ((Upd.refl _ w).drew)
end Go.Proofs.Ytacghhgiilhkfaa
