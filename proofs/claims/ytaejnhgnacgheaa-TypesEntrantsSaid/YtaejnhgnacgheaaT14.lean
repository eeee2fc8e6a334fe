/- types: Worth; the law's is, lottery, sanity. -/
import Derived.Test.YtaejnhgnacgheaaT13
namespace Go.Proofs.Ytaejnhgnacgheaa
set_option linter.unusedVariables false
set_option linter.unusedSimpArgs false
open Go.RowKit

theorem is_any (w : World) (d : DrawL) (vt vp vq vb : Value) (h : DrawIn w d vt vp vq vb) (c : List UInt8) (want : Int) :
    Calls Try.prog 15 #[dval d vt vp vq vb, .string ⟨c.toArray⟩, .int .i64 want] w (Gives w (.bool (decide (runC d clausesL = (c, want))))) := by
  have hU : Kp w (w.alloc (.cells (dcells d vt vp vq vb).toArray 30)) := (Upd.refl _ w).alloc _
  have hc := check_run _ d vt vp vq vb (h.kp hU)
  have HU := Lib.hid hU
  obtain ⟨r, hr⟩ : ∃ r, r = runC d clausesL := ⟨_, rfl⟩
  rw [← hr] at hc ⊢
  have HC := Lib.hid hc
  clear hc hU h hr
  obtain ⟨nm, er⟩ := r
  by_cases h1 : nm = c
  · subst h1
    by_cases h2 : er = want
    · subst h2
      go_enter Try.func15, Try.ntmps15
      go_wp2_with (go_at_call 13; refine HC.out.mono ?_; rintro en w2 ⟨rfl, hb⟩; have HB2 := Lib.hid hb; clear hb)
      go_ret
      exact ⟨by simp, HU.out.trans HB2.out⟩
    · have h2b : (er == want) = false := by simpa using h2
      go_enter Try.func15, Try.ntmps15
      go_wp2_with (go_at_call 13; refine HC.out.mono ?_; rintro en w2 ⟨rfl, hb⟩; have HB2 := Lib.hid hb; clear hb)
      go_ret
      exact ⟨by simp [h2], HU.out.trans HB2.out⟩
  · have h1b : (nm == c) = false := by simpa using h1
    go_enter Try.func15, Try.ntmps15
    go_wp2_with (go_at_call 13; refine HC.out.mono ?_; rintro en w2 ⟨rfl, hb⟩; have HB2 := Lib.hid hb; clear hb)
    go_ret
    exact ⟨by simp [h1], HU.out.trans HB2.out⟩

theorem results_row {P : Program} {fn : Func} {p : Tmp} {ty : TypeId} {tmps : Array Value} {w : World} {g : Nat} {t : TypeId} {cs : List Value} {d : TypeDesc} (h : fn.results = #[.cell p ty])
    (hp : tmps.getD p undef = .pointer (some ⟨g, 0, none⟩)) (hr : Row w g t cs) (hu : P.underlying ty = some d) (hd : (match d with | .struct _ | .array _ _ => true | _ => false) = true) (hi : (P.info? ty).map (·.size) = some cs.toArray.size) :
    (results fn tmps).run P w = .ok (.agg cs.toArray) w := by
  obtain ⟨lo, hi', hg, _⟩ := hr
  exact results_cell_row h tmps w g t cs.toArray (lo, hi') d hp hg hu hd hi
def lotL : DrawL := { name := [108, 111, 116, 116, 111], kind := 1, round := 1, price := 2, pool := 49, pick := 6, tiers := [(6, 50), (5, 30)], roll := false, places := [], cls := 0, size := 0, quotas := [], barred := [] }
theorem T_tiers : SlT Try.prog 26 63 2 16 (.agg #[.int .i64 0, .int .i64 0]) := SlT.of Try.underlying26 (by kernel_rfl) rfl
def nil_ : Value := .slice none 0 0
abbrev lotT : List Value := [.int .i64 6, .int .i64 50, .int .i64 5, .int .i64 30]
theorem lottery_any (w : World) : Calls Try.prog 25 #[] w (fun e w' => ∃ g, e = .returned (dval lotL (.slice (some ⟨g, 0, none⟩) 2 2) (.slice none 0 0) (.slice none 0 0) (.slice none 0 0)) ∧ w.heap.size ≤ g ∧ Row w' g 63 lotT ∧ Kp w w') := by
  go_enter Try.func25, Try.ntmps25
  go_wp2
  refine bodyPost_ret (results_row (g := w.heap.size) (cs := dcells lotL (.slice (some ⟨w.heap.size + 1, 0, none⟩) 2 2) (.slice none 0 0) (.slice none 0 0) (.slice none 0 0)) rfl rfl ((Row.new w _ _).upd ((Upd.refl (fun _ => False) _).alloc _) id) Try.underlying30 rfl (by kernel_rfl)) rfl ?_
  exact ⟨_, rfl, by omega, Row.new_at _ _ _ _ (by simp), ((Upd.refl _ w).alloc _).alloc _⟩
theorem tiers_row {w : World} {g : Nat} (h : Row w g 63 lotT) : Tiers w (.slice (some ⟨g, 0, none⟩) 2 2) [(6, 50), (5, 30)] := by
  refine ⟨_, _, rfl, Nat.le_refl _, by simp, ?_⟩
  rintro ad ⟨⟩
  refine ⟨rfl, h.lt, fun j x hj i u hi => ?_⟩
  rw [h.cell, Nat.zero_add]
  exact flat_get (k := 2) (fun _ => rfl) [((6 : Int), (50 : Int)), (5, 30)] j x hj i u hi
instance (n : Int) : Decidable (in64 n) := by unfold in64; infer_instance
instance (l : List UInt8) : Decidable (okS l) := by unfold okS; infer_instance
theorem lot_ok : DrawOk lotL := ⟨by decide, by decide, by decide, by decide, by decide, by decide, by decide, by decide, by decide⟩
theorem lot_in {w : World} {vt : Value} (h : Tiers w vt [(6, 50), (5, 30)]) : DrawIn w lotL vt (.slice none 0 0) (.slice none 0 0) (.slice none 0 0) := ⟨h, Lst.nil_ _ _ _, Lst.nil_ _ _ _, Lst.nil_ _ _ _, lot_ok⟩
theorem cells13 {W : World} {b : Nat} {d : DrawL} {vt vp vq vb : Value} (h1 : Row W b 30 (dcells d vt vp vq vb)) : W.cell? ⟨b, 0, none⟩ = some (.string ⟨d.name.toArray⟩) ∧ W.cell? ⟨b, 1, none⟩ = some (.int .i64 d.kind) ∧ W.cell? ⟨b, 2, none⟩ = some (.int .i64 d.round) ∧ W.cell? ⟨b, 3, none⟩ = some (.int .i64 d.price) ∧ W.cell? ⟨b, 4, none⟩ = some (.int .i64 d.pool) ∧ W.cell? ⟨b, 5, none⟩ = some (.int .i64 d.pick) ∧ W.cell? ⟨b, 6, none⟩ = some (vt) ∧ W.cell? ⟨b, 7, none⟩ = some (.bool d.roll) ∧ W.cell? ⟨b, 8, none⟩ = some (vp) ∧ W.cell? ⟨b, 9, none⟩ = some (.int .i64 d.cls) ∧ W.cell? ⟨b, 10, none⟩ = some (.int .i64 d.size) ∧ W.cell? ⟨b, 11, none⟩ = some (vq) ∧ W.cell? ⟨b, 12, none⟩ = some (vb) :=
  ⟨h1.cell 0, h1.cell 1, h1.cell 2, h1.cell 3, h1.cell 4, h1.cell 5, h1.cell 6, h1.cell 7, h1.cell 8, h1.cell 9, h1.cell 10, h1.cell 11, h1.cell 12⟩
theorem run_lot : runC lotL clausesL = ([], 0) := by rw [← checkR_eq]; decide

theorem worth_lot (w : World) (vt : Value) (h : Tiers w vt [(6, 50), (5, 30)]) : Calls Try.prog 26 #[dval lotL vt (.slice none 0 0) (.slice none 0 0) (.slice none 0 0), .int .i64 600000000] w (fun e w' => e = .returned (.tuple #[.int .i64 0, .int .i64 3]) ∧ Kp w w') := by
  have hU : Kp w (w.alloc (.cells (dcells lotL vt (.slice none 0 0) (.slice none 0 0) (.slice none 0 0)).toArray 30)) := (Upd.refl _ w).alloc _
  have hc := check_run _ lotL vt (.slice none 0 0) (.slice none 0 0) (.slice none 0 0) ((lot_in h).kp hU)
  rw [run_lot] at hc
  have HC := Lib.hid hc
  have HU := Lib.hid hU
  clear hc hU h
  go_enter Try.func26, Try.ntmps26
  go_wp2_with (go_at_call 13; refine HC.out.mono ?_; rintro en w2 ⟨rfl, hb⟩; have HB2 := Lib.hid hb; have c3 : w2.cell? ⟨w.heap.size, 3, none⟩ = some (.int .i64 2) := hb.cellAt (by simp [lotL]); clear hb)
  go_ret2
  exact ⟨rfl, HU.out.trans HB2.out⟩

def badA : DrawL := { lotL with tiers := [(6, 50), (5, 30), (4, 30)] }
def badB : DrawL := { lotL with places := [([97], 1)] }
def panC : DrawL := { name := [112, 97, 110, 101, 108], kind := 3, round := 1, price := 0, pool := 0, pick := 0, tiers := [], roll := false, places := [], cls := 0, size := 5, quotas := [([119, 111, 109, 101, 110], 2, 3)], barred := [] }
def badD : DrawL := { panC with quotas := [([119, 111, 109, 101, 110], 3, 2)] }
theorem ok_A : DrawOk badA := ⟨by decide, by decide, by decide, by decide, by decide, by decide, by decide, by decide, by decide⟩
theorem ok_B : DrawOk badB := ⟨by decide, by decide, by decide, by decide, by decide, by decide, by decide, by decide, by decide⟩
theorem ok_C : DrawOk panC := ⟨by decide, by decide, by decide, by decide, by decide, by decide, by decide, by decide, by decide⟩
theorem ok_D : DrawOk badD := ⟨by decide, by decide, by decide, by decide, by decide, by decide, by decide, by decide, by decide⟩
theorem run_A : runC badA clausesL = ([116, 105, 101, 114], 15) := by rw [← checkR_eq]; decide
theorem run_B : runC badB clausesL = ([107, 105, 110, 100], 14) := by rw [← checkR_eq]; decide
theorem run_C : runC panC clausesL = ([], 0) := by rw [← checkR_eq]; decide
theorem run_D : runC badD clausesL = ([113, 117, 111, 116, 97], 15) := by rw [← checkR_eq]; decide
def entA : EntL := { id := 1, cls := 0, fam := 0, picks := [1, 2, 3, 4, 5, 6], wishes := [], groups := [] }
def entB : EntL := { id := 1, cls := 0, fam := 0, picks := [6, 5, 4, 3, 2, 1], wishes := [], groups := [] }
theorem ok_eA : EntOk entA := ⟨by decide, by decide, by decide, by decide, by decide, by decide⟩
theorem ok_eB : EntOk entB := ⟨by decide, by decide, by decide, by decide, by decide, by decide⟩
theorem ent_A : entrantL lotL entA = 0 := by unfold entrantL; rw [run_lot]; decide
theorem ent_B : entrantL lotL entB = 15 := by unfold entrantL; rw [run_lot]; decide
theorem nums6 (w : World) (e : TypeId) (a b c d f g : Int) : Nums (w.alloc (.cells #[.int .i64 a, .int .i64 b, .int .i64 c, .int .i64 d, .int .i64 f, .int .i64 g] e)) (.slice (some ⟨w.heap.size, 0, none⟩) 6 6) [a, b, c, d, f, g] := lst_new (k := 1) (enc := numE) (fun _ => rfl) w e _ [a, b, c, d, f, g] rfl
def SaneP (w : World) (e : Ending) (w' : World) : Prop := e = .returned (.bool true) ∧ Kp w w'
end Go.Proofs.Ytaejnhgnacgheaa
