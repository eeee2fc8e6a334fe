/- A slice of acts among the arguments, opened. -/
import Derived.Test.YtacghhgiilhkfaaFrame
import Derived.Test.YtacghhgiilhkfaaActs
import Derived.Deep.Slices
import Derived.Lib.SmallJoins
namespace Go.Proofs.Ytacghhgiilhkfaa
set_option linter.unusedVariables false
open Go.ChangeShapes Go.WideShapes Go.ChangeAt Go.RowKit

instance : Inhabited ActL := ⟨⟨0, 0, 0, []⟩⟩
theorem open_acts {H : Type} {enc : TypeId × Value → H} {W : World} {base : Nat} {v : Value} {d : DataW H} {p : List MemPlace} (hv : Value.okWide Try.prog W .any base 22 v) (h : DataW.Trod enc Try.prog W 0 (fun _ => true) true 22 v d p) :
    ∃ A n c l, v = .slice A n c ∧ Acts W A n c l ∧ n ≤ maxLen ∧ ∀ a, a ∈ l → ActOk a := by
  obtain ⟨fuel, hf⟩ := h
  obtain ⟨A, n, c, rfl⟩ := okWide_slice Try.underlying22 hv
  rcases Go.Deep.open_slice Try.underlying22 hf with ⟨hcs, _⟩ | ⟨a, len, cap, m, nn, D, Pl, hcs, _, hl, hm, hmm, _, hx⟩
  · simp only [Value.cells, List.cons.injEq, and_true] at hcs
    rw [hcs]
    exact ⟨_, _, _, [], rfl, ⟨rfl, Nat.le_refl _, by simp⟩, by unfold maxLen; omega, by simp⟩
  · simp only [Value.cells, List.cons.injEq, and_true] at hcs
    rw [hcs] at hv ⊢
    unfold Value.okWide at hv
    simp only [Try.underlying22] at hv
    unfold Cell.okWide Cell.ok at hv
    simp only [Try.underlying22] at hv
    obtain ⟨ha, hb⟩ := has_at hv.2.2
    simp only [if_true] at hmm
    have h4 : Try.prog.cellsOf 33 = 4 := by kernel_rfl
    have h3 : Try.prog.cellsOf 3 = 1 := by kernel_rfl
    have h9 : Try.prog.cellsOf 9 = 1 := by kernel_rfl
    rw [h4] at hx
    obtain ⟨f, hf⟩ := Go.Deep.choose_lt (α := ActL) (n := len) (p := fun i x => ActOk x ∧ ActAt W a.block (a.off + i * 4) x) (fun i hi => by
      obtain ⟨cs', h1, h2⟩ := hx i (by omega)
      obtain ⟨_, hlen, hcell⟩ := World.cells?_some h1
      obtain ⟨y0, y1, y2, y3, n', _, hl4, t0, t1, t2, t3⟩ := Go.Joins.trod_struct4 Try.underlying33 h2
      match cs', hlen with
      | [u0, u1, u2, u3], _ =>
        obtain ⟨k0, e0, _, w0⟩ := DataW.trod_int Try.underlying3 t0
        obtain ⟨k1, e1, _, w1⟩ := DataW.trod_int Try.underlying3 t1
        obtain ⟨k2, e2, _, w2⟩ := DataW.trod_int Try.underlying3 t2
        obtain ⟨s3, e3, _, w3⟩ := DataW.trod_string Try.underlying9 t3
        simp only [h3, h9] at e0 e1 e2 e3
        simp at e0 e1 e2 e3
        subst e0 e1 e2 e3
        have c0 := hcell 0 (by omega)
        have c1 := hcell 1 (by omega)
        have c2 := hcell 2 (by omega)
        have c3 := hcell 3 (by omega)
        rw [add_at a ha, add_at _ rfl] at c0 c1 c2 c3
        have hsl : s3.data.toList.length = s3.size := by rw [Array.length_toList]; rfl
        exact ⟨⟨k0, k1, k2, s3.data.toList⟩, ⟨in64_of w0, in64_of w1, in64_of w2, by simp only []; rw [hsl]; exact w3⟩, by simpa using c0, by simpa using c1, by simpa using c2, by simpa using c3⟩)
    refine ⟨_, _, _, (List.range len).map f, rfl, ⟨by simp, hl, ?_⟩, by omega, ?_⟩
    · intro i x hi
      rw [List.getElem?_map] at hi
      rcases Nat.lt_or_ge i len with hlt | hge
      · rw [List.getElem?_range hlt] at hi
        cases hi
        obtain ⟨b0, o0, s0⟩ := a
        simp only at ha
        subst ha
        exact ⟨b0, o0, rfl, (hf i hlt).2⟩
      · rw [List.getElem?_eq_none (by simpa using hge)] at hi
        cases hi
    · intro x hx
      obtain ⟨i, hi, rfl⟩ := List.mem_map.1 hx
      exact (hf i (by simpa using hi)).1
end Go.Proofs.Ytacghhgiilhkfaa
