/- What the frames of the laws of types share. -/
import Derived.Test.YtaejnhgnacgheaaT18
namespace Go.Proofs.Ytaejnhgnacgheaa
set_option linter.unusedVariables false
set_option linter.unusedSimpArgs false
open Go.ChangeShapes Go.WideShapes Go.ChangeAt Go.RowKit

set_option maxRecDepth 100000 in
theorem open_byte {W : World} {base : Nat} {v : Value} (hv : Value.okWide Try.prog W .any base 5 v) : ∃ n, v = .int .u8 n ∧ 0 ≤ n ∧ n < 256 := by
  unfold Value.okWide at hv
  simp only [Try.underlying5] at hv
  obtain ⟨n, rfl, h1, h2⟩ := cell_int Try.underlying5 hv
  have e1 : IntKind.u8.min = 0 := rfl
  have e2 : IntKind.u8.max = 255 := rfl
  rw [e1] at h1
  rw [e2] at h2
  exact ⟨n, rfl, h1, by omega⟩
end Go.Proofs.Ytaejnhgnacgheaa
