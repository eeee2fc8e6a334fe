/- JournalApart returns true, whatever its arguments. -/
import Derived.Test.YtcbpgmoegfkhnaaJlaw
namespace Go.Proofs.Ytcbpgmoegfkhnaa
set_option linter.unusedVariables false
open Go.RowKit

set_option maxHeartbeats 8000000 in
set_option maxRecDepth 20000 in
theorem apart_true (W : World) (A0 : Option Addr) (n0 c0 : Nat) (l0 : List (List UInt8)) (hl0 : Strs W A0 n0 c0 l0) (A1 : Option Addr) (n1 c1 : Nat) (l1 : List (List UInt8)) (hl1 : Strs W A1 n1 c1 l1) :
    Calls Try.prog 8 #[.slice A0 n0 c0, .slice A1 n1 c1] W (Sane W) := by
  have HA := Lib.hid hl0
  have HB := Lib.hid hl1
  have hm0 := hl0.len
  have hm1 := hl1.len
  unfold maxLen at hm0 hm1
  clear hl0 hl1
  have H0 : Hid (Own W W []) := Lib.hid (Own.start W)
  go_enter Try.func8, Try.ntmps8
  go_wp2_with (first
    | (go_at_call 9; go_must (refine (sanity_any _).mono ?_; rintro e w1 ⟨rfl, hu⟩; have H1 := Lib.hid (H0.out.far hu); clear hu))
    | (go_at_call 10; show Calls _ _ _ w1 _; go_must (refine (own_new H1.out).mono ?_; rintro e w2 ⟨b, rfl, h⟩; have H2 : Hid (Own W w2 ([.disk b newSt])) := Lib.hid h; clear h))
    | (go_at_call 11; show Calls _ _ _ w2 _; go_must (refine (on_open H2.out 0 rfl DOn.new (by decide)).mono ?_; rintro e w3 ⟨bj, Ax, cx, rfl, h⟩; have H3 : Hid (Own W w3 [.row bj 61 (jS b (jOpen 0 [])), .disk b (syncedSt newSt)]) := Lib.hid h.drop1; clear h)))
  go_loopw [10] (fun v wr => ∃ (k : Nat) (s : DSt) (j : JSt) (L : List (List UInt8)), k ≤ n0 ∧ k ≤ 10 ∧ v = .int .i64 k ∧ Own W wr [.row bj 61 (jS b j), .disk b s] ∧ JOn s j L (4 * k + 1) ∧ L.length = k ∧ Small L) (fun v _ => n0 - (intOf v).toNat)
  case atStart => exact ⟨0, _, _, [], Nat.zero_le _, Nat.zero_le _, rfl, H3.out, DOn.new.on, rfl, Small.nil⟩
  case round =>
    obtain ⟨k, s, j, L, hkn, hk10, rfl, h, hj, hL, hS⟩ := hrel
    have H := Lib.hid h
    have HJ := Lib.hid hj
    have HS := Lib.hid hS
    have HL := Lib.hid hL
    clear h hj hS hL
    by_cases hlt : k < n0
    · by_cases hlt2 : k < 10
      · obtain ⟨g, o, x, rfl, hx, _, c0⟩ := HA.out.get hlt H.out.upd
        go_wp2_with (first
          | (go_at_call 14; go_must (refine (short_any _ x hx).mono ?_; rintro e w' ⟨rfl, rfl⟩))
          | (go_at_call 13; go_must (refine (on_append_small H.out 0 rfl HJ.out (by omega) HS.out (by have := HL.out; omega) x).mono ?_; rintro e w5 ⟨s5, rfl, h, hj5⟩; have H5 := Lib.hid h; have HJ5 := Lib.hid hj5; clear h hj5)))
        go_roundw
        case rel => exact ⟨k + 1, s5, _, L ++ [x.take 200], by omega, by omega, by go_num, H5.out, HJ5.out, by simp [HL.out], HS.out.add (short_len x)⟩
        case measure => simp [intOf]; omega
      · obtain rfl : k = 10 := by omega
        go_wp2_with (first
          | (go_at_call 17; go_must (refine (own_crash_none H.out 1 rfl HJ.out.fit (by omega)).mono ?_; rintro e w5 ⟨c, rfl, h⟩; have H5 : Hid (Own W w5 [.disk c (crashedSt s []), .disk b s]) := Lib.hid h.drop1; clear h))
          | (go_at_call 11; show Calls _ _ _ w5 _; go_must (refine (on_open H5.out 0 rfl (HJ.out.crash []) (by decide)).mono ?_; rintro e w6 ⟨bk, A2, c2, rfl, h⟩; rw [HL.out] at h ⊢; have H6 : Hid (Own W w6 [.row bk 61 (jS c (jOpen j.p L)), .disk c (syncedSt (crashedSt s [])), .disk b s]) := Lib.hid h.drop1; clear h)))
        go_loopw [15] (fun v wr => ∃ (k2 : Nat) (s2 : DSt) (j2 : JSt) (L2 : List (List UInt8)), k2 ≤ n1 ∧ k2 ≤ 10 ∧ v = .int .i64 k2 ∧ Own W wr [.row bk 61 (jS c j2), .disk c s2, .disk b s] ∧ JOn s2 j2 L2 (4 * k2 + 1) ∧ L2.length = L.length + k2 ∧ L2.take L.length = L ∧ Small L2) (fun v _ => n1 - (intOf v).toNat)
        case atStart => exact ⟨0, _, _, L, Nat.zero_le _, Nat.zero_le _, rfl, H6.out, (HJ.out.crash []).on, rfl, List.take_length, HS.out⟩
        case round =>
          clear H
          obtain ⟨k2, s2, j2, L2, hk2n, hk210, rfl, h, hj, hL2, hLL, hS2⟩ := hrel
          have H := Lib.hid h
          have HJ2 := Lib.hid hj
          have HS2 := Lib.hid hS2
          have HL2 := Lib.hid hL2
          have HLL := Lib.hid hLL
          clear h hj hS2 hL2 hLL
          by_cases hlt3 : k2 < n1
          · by_cases hlt4 : k2 < 10
            · obtain ⟨g, o, x, rfl, hx, _, c0⟩ := HB.out.get hlt3 H.out.upd
              go_wp2_with (first
                | (go_at_call 14; go_must (refine (short_any _ x hx).mono ?_; rintro e w' ⟨rfl, rfl⟩))
                | (go_at_call 13; go_must (refine (on_append_small H.out 0 rfl HJ2.out (by omega) HS2.out (by have := HL2.out; have := HL.out; omega) x).mono ?_; rintro e w7 ⟨s7, rfl, h, hj7⟩; have H7 := Lib.hid h; have HJ7 := Lib.hid hj7; clear h hj7)))
              go_roundw
              case rel => exact ⟨k2 + 1, s7, _, L2 ++ [x.take 200], by omega, by omega, by go_num, H7.out, HJ7.out, by simp [HL2.out]; omega, by rw [List.take_append_of_le_length (by have := HL2.out; omega)]; exact HLL.out, HS2.out.add (short_len x)⟩
              case measure => simp [intOf]; omega
            · obtain rfl : k2 = 10 := by omega
              go_wp2_with (first
                | (go_at_call 11; show Calls _ _ _ wr _; go_must (refine (on_open H.out 2 rfl HJ.out.disk (by omega)).mono ?_; rintro e w8 ⟨bl, A3, c3, rfl, h⟩; rw [HL.out] at h ⊢; have H8 : Hid (Own W w8 [.sl (.slice A3 10 c3) 9 1 (ssv L), .disk c s2]) := Lib.hid (h.tail.drop1.erase 2); clear h))
                | (go_at_call 11; show Calls _ _ _ w8 _; go_must (refine (on_open H8.out 1 rfl HJ2.out.disk (by omega)).mono ?_; rintro e w9 ⟨bm, A4, c4, rfl, h⟩; rw [HL2.out, HL.out] at h ⊢; have H9 : Hid (Own W w9 [.sl (.slice A4 (10 + 10) c4) 9 1 (ssv L2), .sl (.slice A3 10 c3) 9 1 (ssv L)]) := Lib.hid (h.tail.erase 2); clear h; have hcap : ((10 : Nat) : Int) + ((10 : Nat) : Int) ≤ (c4 : Int) := (by have := (sl_rd H9.out 0 rfl).cap; omega)))
                | (go_at_call 20; go_must (refine (same_first (sl_rd H9.out 1 rfl) (sl_rd H9.out 0 rfl) HL.out (Nat.le_add_right _ _) HLL.out (by have := HL2.out; have := HL.out; unfold maxLen; omega)).mono ?_; rintro e w10 ⟨rfl, hu⟩; have H10 := Lib.hid (H9.out.far hu); clear hu)))
              go_ret
              exact ⟨rfl, H10.out.upd⟩
          · obtain rfl : k2 = n1 := by omega
            go_wp2_with (first
              | (go_at_call 11; show Calls _ _ _ wr _; go_must (refine (on_open H.out 2 rfl HJ.out.disk (by omega)).mono ?_; rintro e w8 ⟨bl, A3, c3, rfl, h⟩; rw [HL.out] at h ⊢; have H8 : Hid (Own W w8 [.sl (.slice A3 10 c3) 9 1 (ssv L), .disk c s2]) := Lib.hid (h.tail.drop1.erase 2); clear h))
              | (go_at_call 11; show Calls _ _ _ w8 _; go_must (refine (on_open H8.out 1 rfl HJ2.out.disk (by omega)).mono ?_; rintro e w9 ⟨bm, A4, c4, rfl, h⟩; rw [HL2.out, HL.out] at h ⊢; have H9 : Hid (Own W w9 [.sl (.slice A4 (10 + k2) c4) 9 1 (ssv L2), .sl (.slice A3 10 c3) 9 1 (ssv L)]) := Lib.hid (h.tail.erase 2); clear h; have hcap : ((10 : Nat) : Int) + ((k2 : Nat) : Int) ≤ (c4 : Int) := (by have := (sl_rd H9.out 0 rfl).cap; omega)))
              | (go_at_call 20; go_must (refine (same_first (sl_rd H9.out 1 rfl) (sl_rd H9.out 0 rfl) HL.out (Nat.le_add_right _ _) HLL.out (by have := HL2.out; have := HL.out; unfold maxLen; omega)).mono ?_; rintro e w10 ⟨rfl, hu⟩; have H10 := Lib.hid (H9.out.far hu); clear hu)))
            go_ret
            exact ⟨rfl, H10.out.upd⟩
    · obtain rfl : k = n0 := by omega
      go_wp2_with (first
        | (go_at_call 17; go_must (refine (own_crash_none H.out 1 rfl HJ.out.fit (by omega)).mono ?_; rintro e w5 ⟨c, rfl, h⟩; have H5 : Hid (Own W w5 [.disk c (crashedSt s []), .disk b s]) := Lib.hid h.drop1; clear h))
        | (go_at_call 11; show Calls _ _ _ w5 _; go_must (refine (on_open H5.out 0 rfl (HJ.out.crash []) (by decide)).mono ?_; rintro e w6 ⟨bk, A2, c2, rfl, h⟩; rw [HL.out] at h ⊢; have H6 : Hid (Own W w6 [.row bk 61 (jS c (jOpen j.p L)), .disk c (syncedSt (crashedSt s [])), .disk b s]) := Lib.hid h.drop1; clear h)))
      go_loopw [15] (fun v wr => ∃ (k2 : Nat) (s2 : DSt) (j2 : JSt) (L2 : List (List UInt8)), k2 ≤ n1 ∧ k2 ≤ 10 ∧ v = .int .i64 k2 ∧ Own W wr [.row bk 61 (jS c j2), .disk c s2, .disk b s] ∧ JOn s2 j2 L2 (4 * k2 + 1) ∧ L2.length = L.length + k2 ∧ L2.take L.length = L ∧ Small L2) (fun v _ => n1 - (intOf v).toNat)
      case atStart => exact ⟨0, _, _, L, Nat.zero_le _, Nat.zero_le _, rfl, H6.out, (HJ.out.crash []).on, rfl, List.take_length, HS.out⟩
      case round =>
        clear H
        obtain ⟨k2, s2, j2, L2, hk2n, hk210, rfl, h, hj, hL2, hLL, hS2⟩ := hrel
        have H := Lib.hid h
        have HJ2 := Lib.hid hj
        have HS2 := Lib.hid hS2
        have HL2 := Lib.hid hL2
        have HLL := Lib.hid hLL
        clear h hj hS2 hL2 hLL
        by_cases hlt3 : k2 < n1
        · by_cases hlt4 : k2 < 10
          · obtain ⟨g, o, x, rfl, hx, _, c0⟩ := HB.out.get hlt3 H.out.upd
            go_wp2_with (first
              | (go_at_call 14; go_must (refine (short_any _ x hx).mono ?_; rintro e w' ⟨rfl, rfl⟩))
              | (go_at_call 13; go_must (refine (on_append_small H.out 0 rfl HJ2.out (by omega) HS2.out (by have := HL2.out; have := HL.out; omega) x).mono ?_; rintro e w7 ⟨s7, rfl, h, hj7⟩; have H7 := Lib.hid h; have HJ7 := Lib.hid hj7; clear h hj7)))
            go_roundw
            case rel => exact ⟨k2 + 1, s7, _, L2 ++ [x.take 200], by omega, by omega, by go_num, H7.out, HJ7.out, by simp [HL2.out]; omega, by rw [List.take_append_of_le_length (by have := HL2.out; omega)]; exact HLL.out, HS2.out.add (short_len x)⟩
            case measure => simp [intOf]; omega
          · obtain rfl : k2 = 10 := by omega
            go_wp2_with (first
              | (go_at_call 11; show Calls _ _ _ wr _; go_must (refine (on_open H.out 2 rfl HJ.out.disk (by omega)).mono ?_; rintro e w8 ⟨bl, A3, c3, rfl, h⟩; rw [HL.out] at h ⊢; have H8 : Hid (Own W w8 [.sl (.slice A3 k c3) 9 1 (ssv L), .disk c s2]) := Lib.hid (h.tail.drop1.erase 2); clear h))
              | (go_at_call 11; show Calls _ _ _ w8 _; go_must (refine (on_open H8.out 1 rfl HJ2.out.disk (by omega)).mono ?_; rintro e w9 ⟨bm, A4, c4, rfl, h⟩; rw [HL2.out, HL.out] at h ⊢; have H9 : Hid (Own W w9 [.sl (.slice A4 (k + 10) c4) 9 1 (ssv L2), .sl (.slice A3 k c3) 9 1 (ssv L)]) := Lib.hid (h.tail.erase 2); clear h; have hcap : ((k : Nat) : Int) + ((10 : Nat) : Int) ≤ (c4 : Int) := (by have := (sl_rd H9.out 0 rfl).cap; omega)))
              | (go_at_call 20; go_must (refine (same_first (sl_rd H9.out 1 rfl) (sl_rd H9.out 0 rfl) HL.out (Nat.le_add_right _ _) HLL.out (by have := HL2.out; have := HL.out; unfold maxLen; omega)).mono ?_; rintro e w10 ⟨rfl, hu⟩; have H10 := Lib.hid (H9.out.far hu); clear hu)))
            go_ret
            exact ⟨rfl, H10.out.upd⟩
        · obtain rfl : k2 = n1 := by omega
          go_wp2_with (first
            | (go_at_call 11; show Calls _ _ _ wr _; go_must (refine (on_open H.out 2 rfl HJ.out.disk (by omega)).mono ?_; rintro e w8 ⟨bl, A3, c3, rfl, h⟩; rw [HL.out] at h ⊢; have H8 : Hid (Own W w8 [.sl (.slice A3 k c3) 9 1 (ssv L), .disk c s2]) := Lib.hid (h.tail.drop1.erase 2); clear h))
            | (go_at_call 11; show Calls _ _ _ w8 _; go_must (refine (on_open H8.out 1 rfl HJ2.out.disk (by omega)).mono ?_; rintro e w9 ⟨bm, A4, c4, rfl, h⟩; rw [HL2.out, HL.out] at h ⊢; have H9 : Hid (Own W w9 [.sl (.slice A4 (k + k2) c4) 9 1 (ssv L2), .sl (.slice A3 k c3) 9 1 (ssv L)]) := Lib.hid (h.tail.erase 2); clear h; have hcap : ((k : Nat) : Int) + ((k2 : Nat) : Int) ≤ (c4 : Int) := (by have := (sl_rd H9.out 0 rfl).cap; omega)))
            | (go_at_call 20; go_must (refine (same_first (sl_rd H9.out 1 rfl) (sl_rd H9.out 0 rfl) HL.out (Nat.le_add_right _ _) HLL.out (by have := HL2.out; have := HL.out; unfold maxLen; omega)).mono ?_; rintro e w10 ⟨rfl, hu⟩; have H10 := Lib.hid (H9.out.far hu); clear hu)))
          go_ret
          exact ⟨rfl, H10.out.upd⟩
end Go.Proofs.Ytcbpgmoegfkhnaa
