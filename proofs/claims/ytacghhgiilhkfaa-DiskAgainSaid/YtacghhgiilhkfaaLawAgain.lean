/- DiskAgain returns true, whatever its arguments. -/
import Derived.Test.YtacghhgiilhkfaaActs
namespace Go.Proofs.Ytacghhgiilhkfaa
set_option linter.unusedVariables false
open Go.RowKit

set_option maxHeartbeats 4000000 in
theorem again_true (W : World) (A0 : Option Addr) (n0 c0 : Nat) (l : List ActL) (hA : Acts W A0 n0 c0 l) (hm0 : n0 ≤ maxLen) (hL : ∀ a, a ∈ l → ActOk a)
    (A1 : Option Addr) (n1 c1 : Nat) (q1 : List Int) (hq1 : Rd W (.slice A1 n1 c1) 1 n1 (ivs q1)) (hqb1 : ∀ k, (Value.slice A1 n1 c1).ownBlock = some k → k < W.heap.size) (hqn1 : n1 ≤ maxLen)
    (A2 : Option Addr) (n2 c2 : Nat) (q2 : List Int) (hq2 : Rd W (.slice A2 n2 c2) 1 n2 (ivs q2)) (hqb2 : ∀ k, (Value.slice A2 n2 c2).ownBlock = some k → k < W.heap.size) (hqn2 : n2 ≤ maxLen) :
    Calls Try.prog 7 #[.slice A0 n0 c0, .slice A1 n1 c1, .slice A2 n2 c2] W (Sane W) := by
  have HA := Lib.hid hA
  have HL := Lib.hid hL
  have HQ1 := Lib.hid (And.intro hq1 hqb1)
  have HQ2 := Lib.hid (And.intro hq2 hqb2)
  have HM1 := Lib.hid hqn1
  have HM2 := Lib.hid hqn2
  unfold maxLen at hm0
  have hnc := hA.2.1
  clear hA hL hq1 hqb1 hq2 hqb2 hqn1 hqn2
  have H0 : Hid (Own W W []) := Lib.hid (Own.start W)
  go_enter Try.func7, Try.ntmps7
  go_wp2_with (first
    | (go_at_call 11; go_must (refine (sanity_any _).mono ?_; rintro e w1 ⟨rfl, hu⟩; have H1 := Lib.hid (H0.out.far hu); clear hu))
    | (go_at_call 12; show Calls _ _ _ w1 _; go_must (refine (own_new H1.out).mono ?_; rintro e w2 ⟨bd0, rfl, h⟩; have H2 : Hid (Own W w2 ([.disk bd0 newSt])) := Lib.hid (h); clear h))
    | (go_at_call 13; show Calls _ _ _ w2 _; go_must (refine (own_rnew H2.out).mono ?_; rintro e w3 ⟨bm0, rfl, h⟩; obtain ⟨bx, hbx⟩ : ∃ bx, w3.heap.size = bx := ⟨_, rfl⟩; have HD0 := Lib.hid (desk_new h); rw [hbx] at HD0; have e0 : (w3.alloc (.cells #[.pointer (some ⟨bd0, 0, none⟩), .pointer (some ⟨bm0, 0, none⟩)] 31)).cell? ⟨bx, 0, none⟩ = some (.pointer (some ⟨bd0, 0, none⟩)) := (by subst hbx; exact (Row.new_at w3 _ _ _ rfl).cell 0); clear h)))
  go_loopw [9] (fun v wr => ∃ (k : Nat) (s : DSt), k ≤ n0 ∧ k ≤ 15 ∧ v = .int .i64 k ∧ DeskAt W wr bx k s []) (fun v _ => n0 - (intOf v).toNat)
  case atStart => exact ⟨0, newSt, Nat.zero_le _, Nat.zero_le _, rfl, HD0.out⟩
  case round =>
    obtain ⟨k, s, hkn, hk15, rfl, hD⟩ := hrel
    have HD := Lib.hid hD
    clear hD
    by_cases hlt : k < n0
    · by_cases hlt2 : k < 15
      · obtain ⟨a, g, o, hal, rfl, ha0, ha1, ha2, ha3⟩ := HA.out.get hlt HD.out.upd
        obtain ⟨ok0, ok1, ok2, ok3⟩ := HL.out a hal
        have K := Lib.hid (And.intro ok0 (And.intro ok1 (And.intro ok2 ok3)))
        clear ok0 ok1 ok2 ok3 hal
        go_wp2_with (first
          | (go_at_call 15; go_must (refine (do_any HD.out (by omega) (a := a) K.out.1 K.out.2.1 K.out.2.2.1 K.out.2.2.2).mono ?_; rintro e w5 ⟨rfl, h⟩; have HE := Lib.hid h; clear h)))
        go_roundw
        case rel => exact ⟨k + 1, doSt s a, by omega, by omega, by go_num, HE.out⟩
        case measure => simp [intOf]; omega
      · obtain ⟨bd, bm, s', h, hS, hF, hF'⟩ := HD.out
        have H5 : Hid (Own W wr [.row bx 31 [.pointer (some ⟨bd, 0, none⟩), .pointer (some ⟨bm, 0, none⟩)], .disk bd s, .ref bm s']) := Lib.hid h
        obtain ⟨c4, c5⟩ := same_cells h
        have HF := Lib.hid hF
        clear h hS hF hF' HD
        go_wp2_with (first
          | (go_at_call 16; show Calls _ _ _ wr _; go_must (refine (own_crash H5.out 1 rfl HF.out (by omega) (H5.out.rd HQ1.out.1 HQ1.out.2).1 (H5.out.rd HQ1.out.1 HQ1.out.2).2 HM1.out).mono ?_; rintro e w6 ⟨c, rfl, h⟩; have H6 := Lib.hid h; clear h))
          | (go_at_call 16; show Calls _ _ _ w6 _; go_must (refine (own_crash H6.out 0 rfl (HF.out.crashed q1) (by decide) (H6.out.rd HQ2.out.1 HQ2.out.2).1 (H6.out.rd HQ2.out.1 HQ2.out.2).2 HM2.out).mono ?_; rintro e w7 ⟨d, rfl, h⟩; have H7 := Lib.hid h; clear h))
          | (go_at_call 23; show Calls _ _ _ w7 _; go_must (refine (own_size H7.out 0 rfl).mono ?_; rintro e w8 ⟨rfl, hw⟩; have H8 : Hid (Own W w8 _) := Lib.hid (hw ▸ H7.out); clear hw))
          | (go_at_call 23; show Calls _ _ _ w8 _; go_must (refine (own_size H8.out 1 rfl).mono ?_; rintro e w9 ⟨rfl, hw⟩; have H9 : Hid (Own W w9 _) := Lib.hid (hw ▸ H8.out); clear hw))
          | (go_at_call 24; show Calls _ _ _ w9 _; go_must (refine (own_read H9.out 0 rfl ((HF.out.crashed q1).crashed q2) 0 33554432 (by decide) (by decide)).mono ?_; rintro e w10 ⟨rfl, h⟩; have H10 := Lib.hid h; clear h))
          | (go_at_call 24; show Calls _ _ _ w10 _; go_must (refine (own_read H10.out 1 rfl (HF.out.crashed q1) 0 33554432 (by decide) (by decide)).mono ?_; rintro e w11 ⟨rfl, h⟩; have H11 := Lib.hid h; clear h))
          | (go_at_call 25; go_must (have hc := own_calls H11.out 0 rfl; rw [show (crashedSt (crashedSt s q1) q2).calls = 0 from rfl] at hc; refine hc.mono ?_; clear hc; rintro e w' ⟨rfl, rfl⟩)))
        go_ret
        exact ⟨rfl, H11.out.upd⟩
    · obtain ⟨bd, bm, s', h, hS, hF, hF'⟩ := HD.out
      have H5 : Hid (Own W wr [.row bx 31 [.pointer (some ⟨bd, 0, none⟩), .pointer (some ⟨bm, 0, none⟩)], .disk bd s, .ref bm s']) := Lib.hid h
      obtain ⟨c4, c5⟩ := same_cells h
      have HF := Lib.hid hF
      clear h hS hF hF' HD
      go_wp2_with (first
        | (go_at_call 16; show Calls _ _ _ wr _; go_must (refine (own_crash H5.out 1 rfl HF.out (by omega) (H5.out.rd HQ1.out.1 HQ1.out.2).1 (H5.out.rd HQ1.out.1 HQ1.out.2).2 HM1.out).mono ?_; rintro e w6 ⟨c, rfl, h⟩; have H6 := Lib.hid h; clear h))
        | (go_at_call 16; show Calls _ _ _ w6 _; go_must (refine (own_crash H6.out 0 rfl (HF.out.crashed q1) (by decide) (H6.out.rd HQ2.out.1 HQ2.out.2).1 (H6.out.rd HQ2.out.1 HQ2.out.2).2 HM2.out).mono ?_; rintro e w7 ⟨d, rfl, h⟩; have H7 := Lib.hid h; clear h))
        | (go_at_call 23; show Calls _ _ _ w7 _; go_must (refine (own_size H7.out 0 rfl).mono ?_; rintro e w8 ⟨rfl, hw⟩; have H8 : Hid (Own W w8 _) := Lib.hid (hw ▸ H7.out); clear hw))
        | (go_at_call 23; show Calls _ _ _ w8 _; go_must (refine (own_size H8.out 1 rfl).mono ?_; rintro e w9 ⟨rfl, hw⟩; have H9 : Hid (Own W w9 _) := Lib.hid (hw ▸ H8.out); clear hw))
        | (go_at_call 24; show Calls _ _ _ w9 _; go_must (refine (own_read H9.out 0 rfl ((HF.out.crashed q1).crashed q2) 0 33554432 (by decide) (by decide)).mono ?_; rintro e w10 ⟨rfl, h⟩; have H10 := Lib.hid h; clear h))
        | (go_at_call 24; show Calls _ _ _ w10 _; go_must (refine (own_read H10.out 1 rfl (HF.out.crashed q1) 0 33554432 (by decide) (by decide)).mono ?_; rintro e w11 ⟨rfl, h⟩; have H11 := Lib.hid h; clear h))
        | (go_at_call 25; go_must (have hc := own_calls H11.out 0 rfl; rw [show (crashedSt (crashedSt s q1) q2).calls = 0 from rfl] at hc; refine hc.mono ?_; clear hc; rintro e w' ⟨rfl, rfl⟩)))
      go_ret
      exact ⟨rfl, H11.out.upd⟩
end Go.Proofs.Ytacghhgiilhkfaa
