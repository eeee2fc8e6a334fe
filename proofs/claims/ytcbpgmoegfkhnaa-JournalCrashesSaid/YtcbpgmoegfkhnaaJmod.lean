/- Journals: the model's row with the slices that it holds named. -/
import Derived.Test.YtcbpgmoegfkhnaaJrun
namespace Go.Proofs.Ytcbpgmoegfkhnaa
set_option linter.unusedVariables false
open Go.RowKit

def Item.rjV (b : Nat) (L M : List (List UInt8)) (br : Bool) (by_ : Int) (vL vM : Value) : Item := ⟨fun w F => RjAt w F b L M br by_ vL vM, fun h hu hS hF => h.upd hu hS hF⟩
theorem rjv_of {W w : World} {m : List Item} (h : Own W w m) (i : Nat) {b : Nat} {mj : RjS} (hi : m[i]? = some (.rjS b mj)) : ∃ A c vM, Own W w (m.set i (.rjV b mj.l mj.m mj.broken mj.bytes (.slice A mj.l.length c) vM)) := by
  obtain ⟨F, ⟨vL, vM, hJ⟩, _⟩ := h.item i hi
  obtain ⟨A, c, he, _⟩ := hJ.l.form
  refine ⟨A, c, vM, h.turn i hi fun F' ⟨vL', vM', hJ'⟩ => ?_⟩
  have a0 := hJ.row.cell 0
  have a1 := hJ.row.cell 1
  have b0 := hJ'.row.cell 0
  have b1 := hJ'.row.cell 1
  rw [a0] at b0
  rw [a1] at b1
  cases b0
  cases b1
  subst he
  exact hJ'
theorem rjv_cell {W w : World} {m : List Item} (h : Own W w m) (i : Nat) {b : Nat} {L M : List (List UInt8)} {br : Bool} {by_ : Int} {vL vM : Value} (hi : m[i]? = some (.rjV b L M br by_ vL vM)) : w.cell? ⟨b, 0, none⟩ = some vL := by
  obtain ⟨F, hJ, _⟩ := h.item i hi
  exact RjAt.row hJ |>.cell 0
theorem rjs_cell {W w : World} {m : List Item} (h : Own W w m) (i : Nat) {b : Nat} {mj : RjS} (hi : m[i]? = some (.rjS b mj)) : ∃ A c, w.cell? ⟨b, 0, none⟩ = some (.slice A mj.l.length c) := by
  obtain ⟨F, ⟨vL, vM, hJ⟩, _⟩ := h.item i hi
  obtain ⟨A, c, he, _⟩ := hJ.l.form
  subst he
  exact ⟨A, c, hJ.row.cell 0⟩
theorem JOn.mono {s : DSt} {j : JSt} {L : List (List UInt8)} {n m : Nat} (h : JOn s j L n) (hm : n ≤ m) : JOn s j L m := ⟨h.calm, h.opened, h.good, h.alive, h.fit.mono hm⟩
theorem rapp_yes {L : List (List UInt8)} {r : List UInt8} (h : lensI L + r.length + 16 + 256 ≤ 16777216) : rappSt ⟨L, [], false, lensI L⟩ r true = (0, ⟨L ++ [r], [], false, lensI (L ++ [r])⟩) := by
  unfold rappSt
  rw [if_neg (by simp), if_neg (by simp only []; omega), if_pos rfl, lensI_snoc]
  simp [Int.add_assoc]
theorem on_rapp_yes {W w : World} {m : List Item} (h : Own W w m) (i : Nat) {b : Nat} {L : List (List UInt8)} (hi : m[i]? = some (.rjS b ⟨L, [], false, lensI L⟩)) (hS : Small L) (hL : L.length ≤ 1000) (r : List UInt8) :
    Calls Try.prog 15 #[.pointer (some ⟨b, 0, none⟩), .string ⟨(r.take 200).toArray⟩, .bool true] w (RappPost W m i b 0 ⟨L ++ [r.take 200], [], false, lensI (L ++ [r.take 200])⟩) := by
  have h1 := hS.lens
  have h2 := short_len r
  have hc := rapp_any h i hi (by simp only []; omega) (by simp) (by simp only []; omega) (by simp only []; omega) (r.take 200) (by omega) true
  rw [rapp_yes (by omega)] at hc
  exact hc
def ldHid (x : Operand) : Op := .load 22 x
theorem ld_hide (x : Operand) : Op.load 22 x = ldHid x := rfl
end Go.Proofs.Ytcbpgmoegfkhnaa
