/- DiskLimits returns true, whatever its arguments. -/
import Derived.Test.YtacghhgiilhkfaaLawKit2
namespace Go.Proofs.Ytacghhgiilhkfaa
set_option linter.unusedVariables false
open Go.RowKit

theorem sl_item {w : World} {v : Value} {e size n g : Nat} {xs : List Value} (h : Sl w v e size n xs) (hg : v.ownBlock = some g) : ∃ cs, Row w g e cs ∧ ∀ w', Row w' g e cs → Sl w' v e size n xs := by
  obtain ⟨h1, ⟨rfl, _⟩ | ⟨g', off, cap, cs, rfl, hr, h2, h3, h4, h5⟩⟩ := h
  · cases hg
  · cases hg
    exact ⟨cs, hr, fun w' hw => ⟨h1, .inr ⟨_, off, cap, cs, rfl, hw, h2, h3, h4, h5⟩⟩⟩

theorem make_zeros_run (k : Nat) (hk : k ≤ 1000) (w : World) : (Instr.makeSlice 52 (.int .i64 k) (.int .i64 k)).run Try.prog w = .ok (.slice (some ⟨w.heap.size, 0, none⟩) k k) (w.alloc (.cells (madeCells #[.int .u8 0] k) 5)) := by
  obtain ⟨i, hi, hz, hsz, hby⟩ := T_bytes.i
  have hr := run_make (P := Try.prog) w 52 5 i (.int .u8 0) T_bytes.u hi hz .i64 .i64 (k : Int) (k : Int) (by omega) (by omega) (by rw [hby]; omega) (by omega)
  simp only [Int.toNat_natCast, hsz, Nat.mul_one] at hr
  exact hr

theorem zeros_rd {w : World} {g k : Nat} (h : Row w g 5 (madeCells #[.int .u8 0] k).toList) : Rd w (.slice (some ⟨g, 0, none⟩) k k) 1 k (bvs (List.replicate k 0)) := by
  have hr := Rd.of_new (n := k) (size := 1) h (by rw [size_madeCells, Nat.mul_one])
  rw [toList_madeCells_one, bvs_zeros] at hr
  exact hr

def cvHid (x : Operand) : Op := .convert 52 9 x
theorem cv_hide (x : Operand) : Op.convert 52 9 x = cvHid x := rfl

theorem step_if {P : Program} {o : Oper} {ops : Array Oper} {a : Act} {w : World} {K : Act → World → Prop} {Q : Exit → Act → World → Prop} {E : Prop} (hw : Region.wanted o (yielded ops a.tmps) = true) (h : o.wp P a w K Q) : if Region.wanted o (yielded ops a.tmps) = true then Oper.wp P o a w K Q else E := by
  rw [if_pos hw]
  exact h

theorem zero_fill (k : Nat) : putL [] k [] = List.replicate k 0 := by
  unfold putL
  simp
theorem read_zeros (k : Nat) : readL (List.replicate k 0) 0 ((k : Int) + 1) = List.replicate k 0 := by
  unfold readL
  rw [List.length_replicate]
  by_cases h : (k : Int) ≤ 0
  · have : k = 0 := by omega
    subst this
    simp
  · rw [if_neg (by omega)]
    have : min ((k : Int) + 1).toNat (k - (0 : Int).toNat) = k := by simp
    rw [this]
    simp

set_option maxRecDepth 20000 in
set_option maxHeartbeats 4000000 in
theorem limits_true (W : World) (t0 : Int) (h0 : in64 t0) (t1 : Int) (h1 : in64 t1) (t2 : Int) (h2 : in64 t2) :
    Calls Try.prog 9 #[.int .i64 t0, .int .i64 t1, .int .i64 t2] W (Sane W) := by
  obtain ⟨h01, h02⟩ := h0
  obtain ⟨h11, h12⟩ := h1
  obtain ⟨h21, h22⟩ := h2
  have H0 : Hid (Own W W []) := Lib.hid (Own.start W)
  obtain ⟨f, hf, hfb⟩ : ∃ m : Nat, modI t0 7 = m ∧ (m : Int) < 7 := modI_nat t0 7 (by decide)
  obtain ⟨m1, hm1, hm1b⟩ : ∃ m : Nat, modI t1 70 = m ∧ (m : Int) < 70 := modI_nat t1 70 (by decide)
  obtain ⟨k, hk, hkb⟩ : ∃ m : Nat, modI t2 500 = m ∧ (m : Int) < 500 := modI_nat t2 500 (by decide)
  have HM := Lib.hid (And.intro hf (And.intro hm1 hk))
  obtain ⟨r, s1, hw⟩ : ∃ r s1, writeSt newSt (16777216 - (m1 : Int) - 3 + f) (List.replicate m1 113) = (r, s1) := ⟨_, _, rfl⟩
  obtain ⟨s1', hw'⟩ : ∃ s1', rwriteSt newSt (16777216 - (m1 : Int) - 3 + f) (List.replicate m1 113) = (r, s1') := ⟨_, by rw [← (show (rwriteSt newSt (16777216 - (m1 : Int) - 3 + f) (List.replicate m1 113)).1 = r by rw [(Sim.new.write _ _).1, hw])]⟩
  have hsim : Sim s1 s1' := by have := (Sim.new.write (16777216 - (m1 : Int) - 3 + f) (List.replicate m1 113)).2; rwa [hw, hw'] at this
  have W1 := Lib.hid hw
  have W2 := Lib.hid hw'
  have HS := Lib.hid hsim
  have F1 : Hid (Fit 1 s1) := Lib.hid (by have := Fit.new.write (off := (16777216 - (m1 : Int) - 3 + f)) (l := (List.replicate m1 113)) (by rw [List.length_replicate]; omega); rwa [hw] at this)
  have F2 : Hid (Fit 1 s1') := Lib.hid (by have := Fit.new.rwrite (off := (16777216 - (m1 : Int) - 3 + f)) (l := (List.replicate m1 113)) (by rw [List.length_replicate]; omega); rwa [hw'] at this)
  obtain ⟨s2, hs2⟩ : ∃ s, s = wroteSt newSt k [] := ⟨_, rfl⟩
  have E2 : Hid (writeSt newSt k [] = (0, s2)) := Lib.hid (by rw [hs2]; exact writeSt_ok k (by simp; omega) rfl)
  have F3 : Hid (Fit 1 s2) := Lib.hid (by rw [hs2]; exact Fit.new.wrote (by simp; omega) (by simp))
  have hn2 : s2.now = List.replicate k 0 := by rw [hs2]; exact zero_fill k
  have E3 : Hid (readL s2.now 0 ((k : Int) + 1) = List.replicate k 0) := Lib.hid (by rw [hn2]; exact read_zeros k)
  have E4 : Hid (s2.now.length = k) := Lib.hid (by rw [hn2, List.length_replicate])
  have E5 : Hid (writeSt s2 (-1 - (k : Int)) [] = (1, s2)) := Lib.hid (by unfold writeSt; rw [if_pos (by unfold Bad; omega)])
  have E6 : Hid (writeSt s2 (9223372036854775807 - (k : Int)) [97, 98] = (1, s2)) := Lib.hid (by unfold writeSt; rw [if_pos (by unfold Bad; omega)])
  have a1 := IntWalk.i64_in (16777216 - (m1 : Int)) (by omega)
  have a2 := IntWalk.i64_in (16777216 - (m1 : Int) - 3) (by omega)
  have a3 := IntWalk.i64_in (16777216 - (m1 : Int) - 3 + f) (by omega)
  have a4 := IntWalk.i64_in ((k : Int) + 1) (by omega)
  have a5 := IntWalk.i64_in (-1 - (k : Int)) (by omega)
  have a6 := IntWalk.i64_in (9223372036854775807 - (k : Int)) (by omega)
  have HMK := Lib.hid (fun w => make_zeros_run k (by omega) w)
  clear hf hm1 hk hw hw' hsim hs2 hn2
  go_enter Try.func9, Try.ntmps9
  go_wp2_with (first
    | (go_at_call 11; go_must (refine (sanity_any _).mono ?_; rintro e w1 ⟨rfl, hu⟩; have H1 := Lib.hid (H0.out.far hu); clear hu))
    | (go_at_call 12; show Calls _ _ _ w1 _; go_must (refine (own_new H1.out).mono ?_; rintro e w2 ⟨bd, rfl, h⟩; have H2 : Hid (Own W w2 ([.disk bd newSt])) := Lib.hid (h); clear h))
    | (go_at_call 13; show Calls _ _ _ w2 _; go_must (refine (own_rnew H2.out).mono ?_; rintro e w3 ⟨bm, rfl, h2⟩; obtain ⟨bx, hbx⟩ : ∃ bx, w3.heap.size = bx := ⟨_, rfl⟩; have h : Hid (Own W (w3.alloc (.cells #[.pointer (some ⟨bd, 0, none⟩), .pointer (some ⟨bm, 0, none⟩)] 31)) (.row bx 31 [.pointer (some ⟨bd, 0, none⟩), .pointer (some ⟨bm, 0, none⟩)] :: .disk bd newSt :: .ref bm newSt :: [])) := (by subst hbx; exact Lib.hid ((h2.newRow 31 #[.pointer (some ⟨bd, 0, none⟩), .pointer (some ⟨bm, 0, none⟩)]).swap2)); clear h2; obtain ⟨e0, e00⟩ := same_cells h.out))
    | (go_at_call 14; go_must (refine (mod_any _ _ _ (by decide) (by decide) (by omega) (by omega)).mono ?_; rintro e w' ⟨rfl, rfl⟩; first | rw [HM.out.1] | rw [HM.out.2.1] | rw [HM.out.2.2]))
    | (go_at_call 20; go_must (refine (repeated_q _ m1 (by omega)).mono ?_; rintro e w4 ⟨rfl, hu⟩; have h := Lib.hid (h.out.far hu); clear hu; obtain ⟨c4, c5⟩ := same_cells h.out)))
  have h := Lib.hid h.out.drew
  go_region_held3 (fun w' => w'.cell? ⟨bx, 0, none⟩ = some (.pointer (some ⟨bd, 0, none⟩)) ∧ w'.cell? ⟨bx, 1, none⟩ = some (.pointer (some ⟨bm, 0, none⟩)))
    (exact same_cells h.out)
    ((first
    | (go_at_call 14; go_must (refine (mod_any _ _ _ (by decide) (by decide) (by omega) (by omega)).mono ?_; rintro e w' ⟨rfl, rfl⟩; first | rw [HM.out.1] | rw [HM.out.2.1] | rw [HM.out.2.2]))
    | (go_at_call 21; go_must ((try rw [← List.toArray_replicate]); have hc := own_write h.out 1 rfl Fit.new (by decide) (16777216 - (m1 : Int) - 3 + f) (List.replicate m1 113) (by rw [List.length_replicate]; omega); rw [W1.out] at hc; refine hc.mono ?_; clear hc; rintro e w5 ⟨rfl, h2⟩; have h : Hid (Own W w5 (.row bx 31 [.pointer (some ⟨bd, 0, none⟩), .pointer (some ⟨bm, 0, none⟩)] :: .disk bd s1 :: .ref bm newSt :: [])) := Lib.hid h2; clear h2; obtain ⟨c4, c5⟩ := same_cells h.out))))
  go_wp2_with fail
  have h := Lib.hid h.out.drew
  go_region_held3 (fun w' => w'.cell? ⟨bx, 0, none⟩ = some (.pointer (some ⟨bd, 0, none⟩)) ∧ w'.cell? ⟨bx, 1, none⟩ = some (.pointer (some ⟨bm, 0, none⟩)))
    (exact same_cells h.out)
    ((first
    | (go_at_call 14; go_must (refine (mod_any _ _ _ (by decide) (by decide) (by omega) (by omega)).mono ?_; rintro e w' ⟨rfl, rfl⟩; first | rw [HM.out.1] | rw [HM.out.2.1] | rw [HM.out.2.2]))
    | (go_at_call 27; go_must ((try rw [← List.toArray_replicate]); have hc := own_rwrite h.out 2 rfl Fit.new (by decide) (16777216 - (m1 : Int) - 3 + f) (by unfold in64; omega) (List.replicate m1 113) (by rw [List.length_replicate]; omega); rw [W2.out] at hc; refine hc.mono ?_; clear hc; rintro e w6 ⟨rfl, h2⟩; have h : Hid (Own W w6 (.row bx 31 [.pointer (some ⟨bd, 0, none⟩), .pointer (some ⟨bm, 0, none⟩)] :: .disk bd s1 :: .ref bm s1' :: [])) := Lib.hid h2; clear h2; obtain ⟨c4, c5⟩ := same_cells h.out))))
  go_wp2_with (first
    | (go_at_call 14; go_must (refine (mod_any _ _ _ (by decide) (by decide) (by omega) (by omega)).mono ?_; rintro e w' ⟨rfl, rfl⟩; first | rw [HM.out.1] | rw [HM.out.2.1] | rw [HM.out.2.2]))
    | (go_at_call 12; go_must (refine (own_new h.out).mono ?_; rintro e w7 ⟨d2, rfl, h2⟩; have h : Hid (Own W w7 (.row bx 31 [.pointer (some ⟨bd, 0, none⟩), .pointer (some ⟨bm, 0, none⟩)] :: .disk bd s1 :: .ref bm s1' :: [.disk d2 newSt])) := Lib.hid ((((h2.front 3 rfl).front 3 rfl).front 3 rfl)); clear h2; obtain ⟨c4, c5⟩ := same_cells h.out))
    | (go_at_call 21; go_must (have hc := own_write h.out 3 rfl Fit.new (by decide) k [] (by simp); rw [E2.out] at hc; refine hc.mono ?_; clear hc; rintro e w8 ⟨rfl, h2⟩; have h : Hid (Own W w8 (.row bx 31 [.pointer (some ⟨bd, 0, none⟩), .pointer (some ⟨bm, 0, none⟩)] :: .disk bd s1 :: .ref bm s1' :: [.disk d2 s2])) := Lib.hid h2; clear h2; obtain ⟨c4, c5⟩ := same_cells h.out)))
  try simp only [List.append_eq, List.cons_append, List.nil_append]
  simp only [cv_hide]
  have h := Lib.hid h.out.drew
  go_region_held3 (fun w' => w'.cell? ⟨bx, 0, none⟩ = some (.pointer (some ⟨bd, 0, none⟩)) ∧ w'.cell? ⟨bx, 1, none⟩ = some (.pointer (some ⟨bm, 0, none⟩)))
    (exact same_cells h.out)
    ((first
    | (go_at_call 23; show Calls _ _ _ w21 _; go_must (have hc := own_size h.out 3 rfl; rw [E4.out] at hc; refine hc.mono ?_; clear hc; rintro e w22 ⟨rfl, hw⟩; have h : Hid (Own W w22 _) := Lib.hid (hw ▸ h.out); clear hw))
    | (go_at_call 23; go_must (refine (own_size h.out 1 rfl).mono ?_; rintro e w20 ⟨rfl, hw⟩; have h : Hid (Own W w20 _) := Lib.hid (hw ▸ h.out); clear hw))
    | (go_at_call 28; go_must (have hc := own_rsize h.out 2 rfl; rw [HS.out.now] at hc; refine hc.mono ?_; clear hc; rintro e w21 ⟨rfl, hw⟩; have h : Hid (Own W w21 _) := Lib.hid (hw ▸ h.out); clear hw))
    | (go_at_call 24; go_must (have hc := own_read h.out 3 rfl F3.out 0 ((k : Int) + 1) (by decide) (by omega); rw [E3.out] at hc; refine hc.mono ?_; clear hc; rintro e w23 ⟨rfl, h2⟩; have h := Lib.hid h2; clear h2))
    | (go_at_call 21; show Calls _ _ _ w24 _; go_must (have hc := own_write h.out 3 rfl F3.out (by decide) (9223372036854775807 - (k : Int)) [97, 98] (by simp); rw [E6.out] at hc; refine hc.mono ?_; clear hc; rintro e w25 ⟨rfl, h2⟩; have h := Lib.hid h2; clear h2))
    | (go_at_call 21; go_must (have hc := own_write h.out 3 rfl F3.out (by decide) (-1 - (k : Int)) [] (by simp); rw [E5.out] at hc; refine hc.mono ?_; clear hc; rintro e w24 ⟨rfl, h2⟩; have h := Lib.hid h2; clear h2))
    | (show Oper.upon _ ⟨some 95, _, _, _, _, _⟩ _ _ _ _; go_must (rw [HMK.out _]; simp only [Result.andThen_ok, Oper.upon]; have h := Lib.hid ((((((Own.newRow h.out 5 (madeCells #[.int .u8 0] k))).front 4 rfl).front 4 rfl).front 4 rfl).front 4 rfl)))
    | (show Oper.wp _ ⟨some 96, _, _, _, _, _⟩ _ _ _ _; go_must (have hrd := zeros_rd (h.out.row 4 rfl); refine wp_string_rd 52 9 5 (.tmp 95) rfl Try.underlying52 Try.underlying5 Try.underlying9 rfl hrd ?_))))
  all_goals go_wp2_with fail
  all_goals go_ret
  all_goals exact ⟨rfl, h.out.upd⟩
end Go.Proofs.Ytacghhgiilhkfaa
