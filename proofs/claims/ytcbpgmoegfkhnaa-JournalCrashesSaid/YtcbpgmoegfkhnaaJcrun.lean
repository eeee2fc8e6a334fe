/- Journals: what Append leads to, where nothing has failed so far. -/
import Derived.Test.YtcbpgmoegfkhnaaJmod
namespace Go.Proofs.Ytcbpgmoegfkhnaa
set_option linter.unusedVariables false
open Go.RowKit

theorem Run.whole {s : DSt} {j : JSt} {mj : RjS} {n : Nat} (h : Run s j mj n) (hb : mj.broken = false) : Calm s ∧ openedL s.now = some (j.p, mj.l) ∧ JGood j mj.l ∧ mj.m = [] := by
  rcases h.ways with ⟨a1, a2, a3, a4, a5⟩ | ⟨b1, b2, r, b3, b4, b5⟩
  · exact ⟨a1, a2, a3, a5⟩
  · rw [hb] at b2; cases b2
theorem Run.step2 {s s' : DSt} {j j' : JSt} {mj : RjS} {n : Nat} {x : Int} (h : Run s j mj n) (hb : mj.broken = false) (hn : n ≤ 900) {r : List UInt8} (hr : r.length ≤ 200) (he : appendSt s j r = (x, s', j')) :
    (x = 0 ∧ (rappSt mj r (x == 0)).2.broken = false) ∨ (x = 70 ∧ j'.broken = true ∧ j'.many = mj.l.length ∧ (rappSt mj r (x == 0)).2.l = mj.l) := by
  have hroom := h.room (by omega)
  obtain ⟨a1, a2, a3, a5⟩ := h.whole hb
  have hjb : j.bytes ≤ 216000 := by rw [a3.bytes, ← h.bytes]; exact hroom.2
  have ha := append_plain a1 a2 a3.broken a3.p (r := r) (by omega)
  rw [he] at ha
  cases ha with
  | ok s' k1 k2 k3 =>
    left
    unfold rappSt
    rw [hb, if_neg (by simp), if_neg (by omega), if_pos (by decide)]
    exact ⟨rfl, rfl⟩
  | no s' k1 k2 =>
    right
    unfold rappSt
    rw [hb, if_neg (by simp), if_neg (by omega), if_neg (by decide)]
    exact ⟨rfl, rfl, a3.many, rfl⟩
end Go.Proofs.Ytcbpgmoegfkhnaa
