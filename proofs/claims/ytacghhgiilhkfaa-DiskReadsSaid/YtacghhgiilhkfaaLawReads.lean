/- DiskReads returns true, whatever its arguments. -/
import Derived.Test.YtacghhgiilhkfaaLawKit2
namespace Go.Proofs.Ytacghhgiilhkfaa
set_option linter.unusedVariables false
open Go.RowKit

theorem reads_cells {W w : World} {bx bd bm r0 : Nat} {t0 t1 : Int} {a b : Item} {m : List Item} (h : Own W w (.row bx 31 [.pointer (some ⟨bd, 0, none⟩), .pointer (some ⟨bm, 0, none⟩)] :: a :: b :: .row r0 40 [.int .i64 t0, .int .i64 t1] :: m)) :
    w.cell? ⟨bx, 0, none⟩ = some (.pointer (some ⟨bd, 0, none⟩)) ∧ w.cell? ⟨bx, 1, none⟩ = some (.pointer (some ⟨bm, 0, none⟩)) ∧ w.cell? ⟨r0, 0, none⟩ = some (.int .i64 t0) ∧ w.cell? ⟨r0, 1, none⟩ = some (.int .i64 t1) := ⟨(h.row 0 rfl).cell 0, (h.row 0 rfl).cell 1, (h.row 3 rfl).cell 0, (h.row 3 rfl).cell 1⟩

set_option maxHeartbeats 4000000 in
theorem reads_true (W : World) (l : List UInt8) (hl : l.length ≤ maxLen) (x : Int) (hx : in64 x) (t0 t1 : Int) (h0 : in64 t0) (h1 : in64 t1) :
    Calls Try.prog 8 #[.string ⟨l.toArray⟩, .int .i64 x, .agg #[.int .i64 t0, .int .i64 t1]] W (Sane W) := by
  have HL := Lib.hid hl
  obtain ⟨hx1, hx2⟩ := hx
  obtain ⟨h01, h02⟩ := h0
  obtain ⟨h11, h12⟩ := h1
  clear hl
  obtain ⟨r0, hr0⟩ : ∃ r0, W.heap.size = r0 := ⟨_, rfl⟩
  have H0 : Hid (Own W (W.alloc (.cells #[.int .i64 t0, .int .i64 t1] 40)) [.row r0 40 [.int .i64 t0, .int .i64 t1]]) := by subst hr0; exact Lib.hid ((Own.start W).newRow _ _)
  obtain ⟨m0, hm0, hm0b⟩ : ∃ m : Nat, modI x 8 = m ∧ (m : Int) < 8 := modI_nat x 8 (by decide)
  obtain ⟨m1, hm1, hm1b⟩ : ∃ m : Nat, modI t0 230 = m ∧ (m : Int) < 230 := modI_nat t0 230 (by decide)
  obtain ⟨m2, hm2, hm2b⟩ : ∃ m : Nat, modI t1 20 = m ∧ (m : Int) < 20 := modI_nat t1 20 (by decide)
  have HM := Lib.hid (And.intro hm0 (And.intro hm1 hm2))
  clear hm0 hm1 hm2
  have HT : Hid (in64 (1 + (m0 : Int))) := Lib.hid (by unfold in64; omega)
  go_enter Try.func8, Try.ntmps8
  go_wp2_with (first
    | (go_at_call 11; go_must (refine (sanity_any _).mono ?_; rintro e w1 ⟨rfl, hu⟩; have H1 := Lib.hid (H0.out.far hu); clear hu))
    | (go_at_call 12; show Calls _ _ _ w1 _; go_must (refine (own_new H1.out).mono ?_; rintro e w2 ⟨bd0, rfl, h⟩; have H2 : Hid (Own W w2 ([.disk bd0 newSt, .row r0 40 [.int .i64 t0, .int .i64 t1]])) := Lib.hid (h); clear h))
    | (go_at_call 13; show Calls _ _ _ w2 _; go_must (refine (own_rnew H2.out).mono ?_; rintro e w3 ⟨bm0, rfl, h⟩; obtain ⟨bx, hbx⟩ : ∃ bx, w3.heap.size = bx := ⟨_, rfl⟩; have HD0 := Lib.hid (desk_new h); rw [hbx] at HD0; have e0 : (w3.alloc (.cells #[.pointer (some ⟨bd0, 0, none⟩), .pointer (some ⟨bm0, 0, none⟩)] 31)).cell? ⟨bx, 0, none⟩ = some (.pointer (some ⟨bd0, 0, none⟩)) := (by subst hbx; exact (Row.new_at w3 _ _ _ rfl).cell 0); clear h))
    | (go_at_call 14; go_must (refine (mod_any _ _ _ (by decide) (by decide) (by omega) (by omega)).mono ?_; rintro e w' ⟨rfl, rfl⟩; first | rw [HM.out.1] | rw [HM.out.2.1] | rw [HM.out.2.2]))
    | (go_at_call 15; go_must (refine (do_any HD0.out (by decide) (a := ⟨0, 1 + (m0 : Int), 0, l⟩) in64_0 HT.out in64_0 HL.out).mono ?_; rintro e w5 ⟨rfl, bd, bm, s', h, hS, hF, hF'⟩; have h : Hid (Own W w5 ([.row bx 31 [.pointer (some ⟨bd, 0, none⟩), .pointer (some ⟨bm, 0, none⟩)], .disk bd (doSt newSt ⟨0, 1 + (m0 : Int), 0, l⟩), .ref bm s', .row r0 40 [.int .i64 t0, .int .i64 t1]])) := Lib.hid h; have HS := Lib.hid hS; have HF := Lib.hid hF; have HF' := Lib.hid hF'; clear hS hF hF'; obtain ⟨c4, c5, c6, c7⟩ := reads_cells h.out)))

  simp only [List.append_eq, List.cons_append, List.nil_append]
  have h := Lib.hid h.out.drew
  go_region_held3 (fun w' => w'.cell? ⟨bx, 0, none⟩ = some (.pointer (some ⟨bd, 0, none⟩)) ∧ w'.cell? ⟨bx, 1, none⟩ = some (.pointer (some ⟨bm, 0, none⟩)) ∧ w'.cell? ⟨r0, 0, none⟩ = some (.int .i64 t0) ∧ w'.cell? ⟨r0, 1, none⟩ = some (.int .i64 t1))
    (exact reads_cells h.out)
    ((first
    | (go_at_call 14; go_must (refine (mod_any _ _ _ (by decide) (by decide) (by omega) (by omega)).mono ?_; rintro e w' ⟨rfl, rfl⟩; first | rw [HM.out.1] | rw [HM.out.2.1] | rw [HM.out.2.2]))
    | (go_at_call 24; go_must (refine (own_read h.out 1 rfl HF.out _ _ (by omega) (by omega)).mono ?_; rintro e w6 ⟨rfl, h2⟩; have h : Hid (Own W w6 ([.row bx 31 [.pointer (some ⟨bd, 0, none⟩), .pointer (some ⟨bm, 0, none⟩)], .disk bd (doSt newSt ⟨0, 1 + (m0 : Int), 0, l⟩), .ref bm s', .row r0 40 [.int .i64 t0, .int .i64 t1]])) := Lib.hid h2; clear h2))
    | (go_at_call 26; go_must (refine (own_rread' h.out 2 rfl HF'.out HS.out.now _ _ (by omega) (by omega)).mono ?_; rintro e w6 ⟨rfl, h2⟩; have h : Hid (Own W w6 ([.row bx 31 [.pointer (some ⟨bd, 0, none⟩), .pointer (some ⟨bm, 0, none⟩)], .disk bd (doSt newSt ⟨0, 1 + (m0 : Int), 0, l⟩), .ref bm s', .row r0 40 [.int .i64 t0, .int .i64 t1]])) := Lib.hid h2; clear h2))))
  go_wp2_with fail
  go_ret
  exact ⟨rfl, h.out.upd⟩
end Go.Proofs.Ytacghhgiilhkfaa
