/- DiskNil returns true, whatever its arguments. -/
import Derived.Test.YtacghhgiilhkfaaLawKit2
namespace Go.Proofs.Ytacghhgiilhkfaa
open Go.RowKit

set_option maxHeartbeats 4000000 in
theorem nil_true (W : World) (t0 : Int) (h0 : in64 t0) (l : List UInt8) (hl : l.length ≤ maxLen) (Aq : Option Addr) (nq cq : Nat) (qs : List Int) (hq : Rd W (.slice Aq nq cq) 1 nq (ivs qs)) (hqb : ∀ k, (Value.slice Aq nq cq).ownBlock = some k → k < W.heap.size) (hqn : nq ≤ maxLen) :
    Calls Try.prog 10 #[.int .i64 t0, .string ⟨l.toArray⟩, .slice Aq nq cq] W (Sane W) := by
  have HT := Lib.hid h0
  have HL := Lib.hid hl
  obtain ⟨h01, h02⟩ := h0
  have H0 : Hid (Own W W []) := Lib.hid (Own.start W)
  clear hq hqb hl
  go_enter Try.func10, Try.ntmps10
  go_wp2_with (first
    | (go_at_call 11; go_must (refine (sanity_any _).mono ?_; rintro e w1 ⟨rfl, hu⟩; have H1 := Lib.hid (H0.out.far hu); clear hu))
    | (go_at_call 29; go_must (refine (fail_nil _ _).mono ?_; rintro e w' ⟨rfl, rfl⟩))
    | (go_at_call 16; show Calls _ _ _ w1 _; go_must (refine (own_crash_nil H1.out _).mono ?_; rintro e w2 ⟨c, rfl, h⟩; have H2 : Hid (Own W w2 ([.disk c newSt])) := Lib.hid (h); clear h))
    | (go_at_call 13; go_must (refine (own_rnew (own_zero H2.out)).mono ?_; rintro e w3 ⟨bm, rfl, h⟩; have HD0 := Lib.hid (desk_new h); obtain ⟨bx, hbx⟩ : ∃ bx, w3.heap.size = bx := ⟨_, rfl⟩; rw [hbx] at HD0; clear h))
    | (go_at_call 15; show Calls _ _ _ w4 _; go_must (refine (do_any HD1.out (by decide) (a := ⟨7, 0, t0, []⟩) in64_7 in64_0 HT.out (Nat.zero_le _)).mono ?_; rintro e w5 ⟨rfl, h⟩; have HD2 := Lib.hid h; clear h))
    | (go_at_call 15; go_must (refine (do_any HD0.out (by decide) (a := ⟨0, t0, 0, l⟩) in64_0 HT.out in64_0 HL.out).mono ?_; rintro e w4 ⟨rfl, h⟩; have HD1 := Lib.hid h; clear h))
    | (go_at_call 19; go_must (refine (same_any HD2.out).mono ?_; rintro e w6 ⟨rfl, bd, bm2, s', h, _⟩; have H6 := Lib.hid h; clear h))
    | (go_at_call 23; show Calls _ _ _ w6 _; go_must (refine (size_nil _).mono ?_; rintro e w' ⟨rfl, rfl⟩))
    | (go_at_call 25; show Calls _ _ _ w6 _; go_must (refine (calls_nil _).mono ?_; rintro e w' ⟨rfl, rfl⟩))
    | (go_at_call 24; show Calls _ _ _ w6 _; go_must (refine (own_read_nil H6.out _ _).mono ?_; rintro e w7 ⟨rfl, h⟩; have H7 := Lib.hid h; clear h))
    | (go_at_call 21; show Calls _ _ _ w7 _; go_must (refine (write_nil _ _ _).mono ?_; rintro e w8 ⟨rfl, hw⟩; have H8 : Hid (Own W w8 _) := Lib.hid (hw ▸ H7.out); clear hw))
    | (go_at_call 21; show Calls _ _ _ w8 _; go_must (have hc := own_write H8.out 3 rfl Fit.new (by decide) 0 [97] (by simp); rw [show writeSt newSt 0 [97] = (0, wroteSt newSt 0 [97]) from rfl] at hc; refine hc.mono ?_; rintro e w9 ⟨rfl, h⟩; have H9 := Lib.hid h; clear h hc))
    | (go_at_call 22; show Calls _ _ _ w8 _; go_must (refine (sync_nil _).mono ?_; rintro e w' ⟨rfl, rfl⟩))
    | (go_at_call 23; show Calls _ _ _ w8 _; go_must (have hc := own_size H8.out 3 rfl; rw [show newSt.now.length = 0 from rfl] at hc; refine hc.mono ?_; rintro e w' ⟨rfl, rfl⟩; clear hc)))
  go_ret
  exact ⟨rfl, H9.out.upd⟩
end Go.Proofs.Ytacghhgiilhkfaa
