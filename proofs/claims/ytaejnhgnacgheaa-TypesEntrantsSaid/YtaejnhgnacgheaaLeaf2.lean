/- Single operations of a region by the rule with phases (XAny5): append, a store of one cell. No program in sight. -/
import Derived.Test.YtaejnhgnacgheaaAny5
import Derived.Test.YtaejnhgnacgheaaLeaf
namespace Go.Proofs.Ytaejnhgnacgheaa
set_option linter.unusedVariables false
set_option linter.unusedSimpArgs false
open Go.RowKit
section
variable {R : World → World → Prop} {J : Value → World → Prop} {P : Program} {spec : Tmp → Value → World → Prop} {w : World} {o : Oper} {a : Act}
theorem leavesG_append (s x : Operand) (t : TypeId) (ho : o.op = .call { callee := .builtin .append, args := #[s, x], argTypes := #[t, t] })
    {e size bytes : Nat} {z : Value} (T : SlT P t e size bytes z) {v : Value} {n : Nat} {xs : List Value} (hv : a.eval s = v) (hs : Sl w v e size n xs)
    {y : Value} {m : Nat} {news : List Value} (hy : a.eval x = y) (hx : Rd w y size m news) (h1 : Ones news) (h63 : n + m ≤ maxLen) (hb : (n + m) * bytes ≤ 140737488355328)
    (h : ∀ v' w', Appended w v e size (n + m) (xs ++ news) v' w' → (R w w' ∧ J v' w') ∧ ∀ d, o.dst = some d → spec d v' w') : LeavesG R J P spec o w ((execOp a.eval o).run P w) := by
  obtain ⟨i, hi, hz, hsz, hby⟩ := T.i
  obtain ⟨v', w', hr, hA⟩ := run_append_sl (P := P) w t o.type e i z size bytes T.u hi hz hsz hby T.zs v n xs hs y m news hx h1 h63 hb
  have hrun : (execOp a.eval o).run P w = .ok (.value v') w' := by
    unfold execOp
    simp only [ho, resolve, invoke, builtin, Sem.run_bind, Sem.run_pure, Result.andThen_ok, List.map_toArray, List.map_cons, List.map_nil, hv, hy, hr]
  rw [hrun]
  exact h v' w' hA
/-- a store of one cell -/
theorem leavesG_store (ty : TypeId) (x y : Operand) (ho : o.op = .store ty x y) {b f : Nat} {u old : Value} (hx : a.eval x = .pointer (some ⟨b, f, none⟩)) (hy : a.eval y = u) (h1 : u.oneCell' = true) (hi : (P.info? ty).map (·.size) = some 1)
    (hc : w.cell? ⟨b, f, none⟩ = some old) (hf : w.frozen? ⟨b, f, none⟩ = false) (hk : R w (w.setCell ⟨b, f, none⟩ u)) (hj : J undef (w.setCell ⟨b, f, none⟩ u)) (hs : ∀ d, o.dst = some d → spec d undef (w.setCell ⟨b, f, none⟩ u)) :
    LeavesG R J P spec o w ((execOp a.eval o).run P w) := by
  have hst : (store ((⟨b, f, none⟩ : Addr).add 0) u).run P w = .ok () (w.setCell ⟨b, f, none⟩ u) := by
    rw [Addr.add_lit, run_store P w _ u _ h1]
    simp [hc, hf]
  have hcells : u.cells = #[u] := by cases u <;> first | rfl | cases h1
  have hrun : (execOp a.eval o).run P w = .ok .skip (w.setCell ⟨b, f, none⟩ u) := by
    cases hq : P.info? ty with
    | none => simp [hq] at hi
    | some i =>
      have hsz : i.size = 1 := by simpa [hq] using hi
      unfold execOp
      simp only [ho, hx, hy, Instr.storeAt, Instr.sureAddr, Sem.run_bind, Sem.run_pure, Result.andThen_ok]
      simp [storeVar, sizeOf, typeInfo, hq, hcells, hsz, storeCells, hst, Sem.run_bind]
  rw [hrun]
  exact ⟨⟨hk, hj⟩, hs⟩
end
theorem eval_put_ne {a : Act} {d t : Tmp} {v : Value} (h : d ≠ t) : (a.put (some d) v).eval (.tmp t) = a.eval (.tmp t) := Act.eval_put (fun d' hd' e => by cases hd'; cases e; exact h rfl)
end Go.Proofs.Ytaejnhgnacgheaa
