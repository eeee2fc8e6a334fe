/- Single operations of a region that draws its order, of a program that is a variable: loads, builds, stores of long rows. -/
import Derived.Test.YtaejnhgnacgheaaAny2
import Derived.Test.YtaejnhgnacgheaaT16
namespace Go.Proofs.Ytaejnhgnacgheaa
set_option linter.unusedVariables false
set_option linter.unusedSimpArgs false
open Go.RowKit
section
variable {P : Program} {spec : Tmp → Value → World → Prop} {w : World} {o : Oper} {a : Act}
theorem run_leaf_load (ty : TypeId) (x : Operand) (ho : o.op = .load ty x) (b f : Nat) (hx : a.eval x = .pointer (some ⟨b, f, none⟩)) (cs : List Value) (d : TypeDesc) (hc : w.rangeAt b f cs)
    (hu : P.underlying ty = some d) (hd : d.isRow = true) (hi : (P.info? ty).map (·.size) = some cs.length) : (execOp a.eval o).run P w = .ok (.value (.agg cs.toArray)) w := by
  unfold execOp
  simp only [ho, hx, Instr.loadAt, Instr.sureAddr, Sem.run_bind, Sem.run_pure, Sem.run_map, Result.andThen_ok, run_loadVar_mid w b f ty cs d hc hu hd hi]
theorem run_leaf_build (t : TypeId) (parts : Array (Nat × Operand)) (ho : o.op = .build t parts) (cells : Array Value) (hf : P.built t (parts.map fun (i, x) => (i, a.eval x)).toList = some cells) : (execOp a.eval o).run P w = .ok (.value (.agg cells)) w := by
  unfold execOp
  simp only [ho, Sem.run_bind, Sem.run_pure, Sem.run_map, Result.andThen_ok, run_build w t _ cells hf]
end
end Go.Proofs.Ytaejnhgnacgheaa
