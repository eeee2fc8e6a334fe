/- The examples that every law checks first. -/
import Derived.Test.YtacghhgiilhkfaaOwn2
namespace Go.Proofs.Ytacghhgiilhkfaa
set_option linter.unusedVariables false
open Go.RowKit

theorem Rd.none_ (w : World) (size : Nat) : Rd w (.slice none 0 0) size 0 [] := ⟨by simp, none, 0, rfl, Nat.le_refl _, fun _ => rfl, by simp⟩
def snD1 : DSt := wroteSt newSt 2 [97, 98]
def snD2 : DSt := syncedSt snD1
def snD3 : DSt := wroteSt snD2 3 [120, 121, 122]
def snE1 : DSt := wroteSt newSt 60 (List.replicate 70 120)
def snG2 : DSt := syncedSt (failSt newSt 1)
theorem sn_d1 : writeSt newSt 2 [97, 98] = (0, snD1) := rfl
theorem sn_d2 : syncSt snD1 = (0, snD2) := rfl
theorem sn_d3 : writeSt snD2 3 [120, 121, 122] = (0, snD3) := rfl
theorem sn_e1 : writeSt newSt 60 (List.replicate 70 120) = (0, snE1) := rfl
theorem sn_g2 : syncSt (failSt newSt 1) = (0, snG2) := rfl
theorem sn_g3 : writeSt snG2 0 [97] = (70, snG2) := rfl
theorem sn_g4 : writeSt snG2 (-1) [97] = (1, snG2) := rfl
theorem sn_d1l : snD1.now.length = 4 := rfl
theorem sn_d1r : readL snD1.now 0 9 = [0, 0, 97, 98] := rfl
theorem sn_g2c : snG2.calls = 1 := rfl
theorem sn_cr : readL (crashedSt snD3 []).now 0 9 = [0, 0, 97, 98] := by decide +kernel
theorem sn_fl : (crashedSt snE1 [0, 1]).now.length = 128 := by decide +kernel
theorem sn_fr : readL (crashedSt snE1 [0, 1]).now 60 9 = [0, 0, 0, 0, 120, 120, 120, 120, 120] := by decide +kernel
theorem sn_fd1 : Fit 1 snD1 := Fit.new.wrote (by decide) (by decide)
theorem sn_fd2 : Fit 2 snD2 := by have := sn_fd1.sync; rw [sn_d2] at this; exact this
theorem sn_fd3 : Fit 3 snD3 := sn_fd2.wrote (by decide) (by decide)
theorem sn_fe1 : Fit 1 snE1 := Fit.new.wrote (by simp) (by simp)
theorem sn_fg1 : Fit 1 (failSt newSt 1) := Fit.new.fail (by decide) (by decide)
theorem sn_fg2 : Fit 2 snG2 := by have := sn_fg1.sync; rw [sn_g2] at this; exact this
theorem sn_fc : Fit 0 (crashedSt snD3 []) := sn_fd3.crashed _
theorem sn_ff : Fit 0 (crashedSt snE1 [0, 1]) := sn_fe1.crashed _

def Sane (w : World) (e : Ending) (w' : World) : Prop := e = .returned (.bool true) ∧ Upd (fun _ => False) w w'

set_option maxHeartbeats 4000000 in
theorem sanity_any (w : World) : Calls Try.prog 11 #[] w (Sane w) := by
  have H0 := Lib.hid (Own.start w)
  go_enter Try.func11, Try.ntmps11
  go_wp2_with (first
    | (go_at_call 12; show Calls _ _ _ w _; go_must (refine (own_new H0.out).mono ?_; rintro e w1 ⟨b1, rfl, h⟩; have H1 : Hid (Own w w1 ([.disk b1 newSt])) := Lib.hid h; clear h))
    | (go_at_call 21; show Calls _ _ _ w1 _; go_must (have hc := own_write H1.out 0 rfl Fit.new (by decide) 2 [97, 98] (by decide); rw [sn_d1] at hc; refine hc.mono ?_; rintro e w2 ⟨rfl, h⟩; have H2 : Hid (Own w w2 ([.disk b1 snD1])) := Lib.hid h; clear h hc))
    | (go_at_call 23; show Calls _ _ _ w2 _; go_must (have hc := own_size H2.out 0 rfl; rw [sn_d1l] at hc; refine hc.mono ?_; rintro e w' ⟨rfl, rfl⟩; clear hc))
    | (go_at_call 24; show Calls _ _ _ w2 _; go_must (have hc := own_read H2.out 0 rfl sn_fd1 0 9 (by decide) (by decide); rw [sn_d1r] at hc; refine hc.mono ?_; rintro e w3 ⟨rfl, h⟩; have H3 : Hid (Own w w3 ([.disk b1 snD1])) := Lib.hid h; clear h hc))
    | (go_at_call 22; show Calls _ _ _ w3 _; go_must (have hc := own_sync H3.out 0 rfl sn_fd1 (by decide); rw [sn_d2] at hc; refine hc.mono ?_; rintro e w4 ⟨rfl, h⟩; have H4 : Hid (Own w w4 ([.disk b1 snD2])) := Lib.hid h; clear h hc))
    | (go_at_call 21; show Calls _ _ _ w4 _; go_must (have hc := own_write H4.out 0 rfl sn_fd2 (by decide) 3 [120, 121, 122] (by decide); rw [sn_d3] at hc; refine hc.mono ?_; rintro e w5 ⟨rfl, h⟩; have H5 : Hid (Own w w5 ([.disk b1 snD3])) := Lib.hid h; clear h hc))
    | (go_at_call 16; show Calls _ _ _ w5 _; go_must (refine (own_crash H5.out 0 rfl sn_fd3 (by decide) (Aq := none) (nq := 0) (cq := 0) (q := []) (Rd.none_ _ _) (by simp [Value.ownBlock]) (by decide)).mono ?_; rintro e w6 ⟨b2, rfl, h⟩; have H6 : Hid (Own w w6 [.disk b2 (crashedSt snD3 [])]) := Lib.hid h.drop1; clear h))
    | (go_at_call 12; show Calls _ _ _ w6 _; go_must (refine (own_new H6.out).mono ?_; rintro e w7 ⟨b3, rfl, h⟩; have H7 : Hid (Own w w7 ([.disk b3 newSt, .disk b2 (crashedSt snD3 [])])) := Lib.hid h; clear h))
    | (go_at_call 20; show Calls _ _ _ w7 _; go_must (refine (repeated_any _ 120 70 (by decide)).mono ?_; rintro e w8 ⟨rfl, hu⟩; have H8 := Lib.hid (H7.out.far hu); clear hu))
    | (go_at_call 21; show Calls _ _ _ w8 _; go_must (have hc := own_write H8.out 0 rfl Fit.new (by decide) 60 (List.replicate 70 120) (by decide); rw [sn_e1] at hc; refine hc.mono ?_; rintro e w9 ⟨rfl, h⟩; have H9 : Hid (Own w w9 ([.disk b3 snE1, .disk b2 (crashedSt snD3 [])])) := Lib.hid h; clear h hc))
    | (go_at_call 16; have H9' := H9; go_must (have h0 := H9'.out.newRow 3 #[.int .i64 0, .int .i64 1]; refine (own_crash h0 1 rfl sn_fe1 (by decide) (Aq := some ⟨w9.heap.size, 0, none⟩) (nq := 2) (cq := 2) (q := [0, 1]) (Rd.of_new (cs := #[.int .i64 0, .int .i64 1]) (h0.row 0 rfl) rfl) (by intro k hk; cases hk; exact (h0.row 0 rfl).lt) (by decide)).mono ?_; rintro e w10 ⟨b4, rfl, h⟩; have H10 : Hid (Own w w10 [.disk b4 (crashedSt snE1 [0, 1]), .disk b2 (crashedSt snD3 [])]) := Lib.hid h.drop1.drop1; clear h h0))
    | (go_at_call 12; show Calls _ _ _ w10 _; go_must (refine (own_new H10.out).mono ?_; rintro e w11 ⟨b5, rfl, h⟩; have H11 : Hid (Own w w11 ([.disk b5 newSt, .disk b4 (crashedSt snE1 [0, 1]), .disk b2 (crashedSt snD3 [])])) := Lib.hid h; clear h))
    | (go_at_call 29; show Calls _ _ _ w11 _; go_must (refine (own_fail H11.out 0 rfl 1).mono ?_; rintro e w12 ⟨rfl, h⟩; have H12 : Hid (Own w w12 [.disk b5 (failSt newSt 1), .disk b4 (crashedSt snE1 [0, 1]), .disk b2 (crashedSt snD3 [])]) := Lib.hid h; clear h))
    | (go_at_call 22; show Calls _ _ _ w12 _; go_must (have hc := own_sync H12.out 0 rfl sn_fg1 (by decide); rw [sn_g2] at hc; refine hc.mono ?_; rintro e w13 ⟨rfl, h⟩; have H13 : Hid (Own w w13 ([.disk b5 snG2, .disk b4 (crashedSt snE1 [0, 1]), .disk b2 (crashedSt snD3 [])])) := Lib.hid h; clear h hc))
    | (go_at_call 21; show Calls _ _ _ w13 _; go_must (have hc := own_write H13.out 0 rfl sn_fg2 (by decide) 0 [97] (by decide); rw [sn_g3] at hc; refine hc.mono ?_; rintro e w14 ⟨rfl, h⟩; have H14 : Hid (Own w w14 ([.disk b5 snG2, .disk b4 (crashedSt snE1 [0, 1]), .disk b2 (crashedSt snD3 [])])) := Lib.hid h; clear h hc))
    | (go_at_call 21; show Calls _ _ _ w14 _; go_must (have hc := own_write H14.out 0 rfl sn_fg2 (by decide) (-1) [97] (by decide); rw [sn_g4] at hc; refine hc.mono ?_; rintro e w15 ⟨rfl, h⟩; have H15 : Hid (Own w w15 ([.disk b5 snG2, .disk b4 (crashedSt snE1 [0, 1]), .disk b2 (crashedSt snD3 [])])) := Lib.hid h; clear h hc))
    | (go_at_call 25; show Calls _ _ _ w15 _; go_must (have hc := own_calls H15.out 0 rfl; rw [sn_g2c] at hc; refine hc.mono ?_; rintro e w' ⟨rfl, rfl⟩; clear hc))
    | (go_at_call 24; show Calls _ _ _ w15 _; go_must (have hc := own_read H15.out 2 rfl sn_fc 0 9 (by decide) (by decide); rw [sn_cr] at hc; refine hc.mono ?_; rintro e w16 ⟨rfl, h⟩; have H16 : Hid (Own w w16 ([.disk b5 snG2, .disk b4 (crashedSt snE1 [0, 1]), .disk b2 (crashedSt snD3 [])])) := Lib.hid h; clear h hc))
    | (go_at_call 23; show Calls _ _ _ w16 _; go_must (have hc := own_size H16.out 1 rfl; rw [sn_fl] at hc; refine hc.mono ?_; rintro e w' ⟨rfl, rfl⟩; clear hc))
    | (go_at_call 24; show Calls _ _ _ w16 _; go_must (have hc := own_read H16.out 1 rfl sn_ff 60 9 (by decide) (by decide); rw [sn_fr] at hc; refine hc.mono ?_; rintro e w17 ⟨rfl, h⟩; have H17 : Hid (Own w w17 ([.disk b5 snG2, .disk b4 (crashedSt snE1 [0, 1]), .disk b2 (crashedSt snD3 [])])) := Lib.hid h; clear h hc)))
  go_ret
  exact ⟨rfl, H17.out.upd⟩
end Go.Proofs.Ytacghhgiilhkfaa
