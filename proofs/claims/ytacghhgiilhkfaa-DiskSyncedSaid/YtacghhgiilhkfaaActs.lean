/- A slice of acts that came in: what it holds. -/
import Derived.Test.YtacghhgiilhkfaaLawKit2
namespace Go.Proofs.Ytacghhgiilhkfaa
set_option linter.unusedVariables false
open Go.RowKit

def ActOk (a : ActL) : Prop := in64 a.kind ∧ in64 a.off ∧ in64 a.n ∧ a.text.length ≤ maxLen
def ActAt (w : World) (g o : Nat) (a : ActL) : Prop :=
  w.cell? ⟨g, o, none⟩ = some (.int .i64 a.kind) ∧ w.cell? ⟨g, o + 1, none⟩ = some (.int .i64 a.off) ∧ w.cell? ⟨g, o + 2, none⟩ = some (.int .i64 a.n) ∧ w.cell? ⟨g, o + 3, none⟩ = some (.string ⟨a.text.toArray⟩)
def Acts (w : World) (A : Option Addr) (n c : Nat) (l : List ActL) : Prop :=
  l.length = n ∧ n ≤ c ∧ ∀ i a, l[i]? = some a → ∃ g o, A = some ⟨g, o, none⟩ ∧ ActAt w g (o + i * 4) a
theorem ActAt.upd {w w' : World} {g o : Nat} {a : ActL} (h : ActAt w g o a) (hu : Upd (fun _ => False) w w') : ActAt w' g o a := by
  obtain ⟨h1, h2, h3, h4⟩ := h
  have hg := World.block_lt_of_cell? _ _ h1
  exact ⟨(hu.cell (a := ⟨g, o, none⟩) hg id).trans h1, (hu.cell (a := ⟨g, o + 1, none⟩) hg id).trans h2, (hu.cell (a := ⟨g, o + 2, none⟩) hg id).trans h3, (hu.cell (a := ⟨g, o + 3, none⟩) hg id).trans h4⟩
theorem Acts.get {w w' : World} {A : Option Addr} {n c k : Nat} {l : List ActL} (h : Acts w A n c l) (hk : k < n) (hu : Upd (fun _ => False) w w') : ∃ a g o, a ∈ l ∧ A = some ⟨g, o, none⟩ ∧ ActAt w' g (o + k * 4) a := by
  obtain ⟨h1, _, h2⟩ := h
  obtain ⟨g, o, hA, ha⟩ := h2 k l[k] (List.getElem?_eq_getElem (by omega))
  exact ⟨_, g, o, List.getElem_mem _, hA, ha.upd hu⟩
end Go.Proofs.Ytacghhgiilhkfaa
