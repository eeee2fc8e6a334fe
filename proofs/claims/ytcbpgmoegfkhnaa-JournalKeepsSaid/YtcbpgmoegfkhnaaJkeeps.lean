/- JournalKeeps returns true, whatever its arguments. -/
import Derived.Test.YtcbpgmoegfkhnaaJmod
import Derived.Deep.RegionHeld
namespace Go.Proofs.Ytcbpgmoegfkhnaa
set_option linter.unusedVariables false
open Go.RowKit

set_option maxHeartbeats 8000000 in
set_option maxRecDepth 20000 in
theorem keeps_true (W : World) (A0 : Option Addr) (n0 c0 : Nat) (l0 : List (List UInt8)) (hl0 : Strs W A0 n0 c0 l0) (z1 : Int) (hz1 : 0 ≤ z1) (hy1 : z1 < 4294967296) (z2 : Int) (hz2 : 0 ≤ z2) (hy2 : z2 < 4294967296) :
    Calls Try.prog 3 #[.slice A0 n0 c0, .int .u32 z1, .int .u32 z2] W (Sane W) := by
  have HA := Lib.hid hl0
  have hm0 := hl0.len
  unfold maxLen at hm0
  clear hl0 hy1 hy2
  have H0 : Hid (Own W W []) := Lib.hid (Own.start W)
  go_enter Try.func3, Try.ntmps3
  go_wp2_with (first
    | (go_at_call 9; go_must (refine (sanity_any _).mono ?_; rintro e w1 ⟨rfl, hu⟩; have H1 := Lib.hid (H0.out.far hu); clear hu))
    | (go_at_call 10; show Calls _ _ _ w1 _; go_must (refine (own_new H1.out).mono ?_; rintro e w2 ⟨b0, rfl, h⟩; have H2 : Hid (Own W w2 ([.disk b0 newSt])) := Lib.hid h; clear h))
    | (go_at_call 11; show Calls _ _ _ w2 _; go_must (refine (on_open H2.out 0 rfl DOn.new (by decide)).mono ?_; rintro e w3 ⟨bj0, Ax, cx, rfl, h⟩; have H3 : Hid (Own W w3 [.row bj0 61 (jS b0 (jOpen 0 [])), .disk b0 (syncedSt newSt)]) := Lib.hid h.drop1; clear h))
    | (go_at_call 12; show Calls _ _ _ w3 _; go_must (refine (rjnew_any H3.out).mono ?_; rintro e w4 ⟨bm, rfl, h⟩; have H4 : Hid (Own W w4 [.row bj0 61 (jS b0 (jOpen 0 [])), .disk b0 (syncedSt newSt), .rjS bm ⟨[], [], false, 0⟩]) := Lib.hid (h.swap.swap2); clear h)))
  go_loopw [8, 9, 11, 13] (fun v8 v9 v11 v wr => ∃ (k b bj : Nat) (s : DSt) (j : JSt) (L : List (List UInt8)), k ≤ n0 ∧ k ≤ 20 ∧ v8 = .pointer (some ⟨b, 0, none⟩) ∧ v9 = .pointer (some ⟨bj, 0, none⟩) ∧ v11 = .int .i64 0 ∧ v = .int .i64 k ∧ Own W wr [.row bj 61 (jS b j), .disk b s, .rjS bm ⟨L, [], false, lensI L⟩] ∧ JOn s j L (5 * k + 1) ∧ Small L ∧ L.length = k) (fun _ _ _ v _ => n0 - (intOf v).toNat)
  case atStart => exact ⟨0, b0, bj0, _, _, [], Nat.zero_le _, Nat.zero_le _, rfl, rfl, rfl, rfl, H4.out, DOn.new.on, Small.nil, rfl⟩
  case round =>
    obtain ⟨k, b, bj, s, j, L, hkn, hk20, rfl, rfl, rfl, rfl, h, hR, hSm, hLk⟩ := hrel
    have H := Lib.hid h
    have HR := Lib.hid hR
    have HS := Lib.hid hSm
    have HL := Lib.hid hLk
    clear h hR hSm hLk
    by_cases hlt : k < n0
    · by_cases hlt2 : k < 20
      · obtain ⟨g, o, x, rfl, hx, _, cW⟩ := HA.out.get hlt (Upd.refl _ W)
        have HX := Lib.hid hx
        have HC := Lib.hid cW
        have cr : wr.cell? ⟨g, o + k, none⟩ = some (.string ⟨x.toArray⟩) := (H.out.upd.cell (World.block_lt_of_cell? _ _ cW) id).trans cW
        clear hx cW
        have hk0 : (0 : Int) ≤ k := by omega
        have hk1 : (k : Int) < n0 := by omega
        obtain ⟨hh, hhe⟩ : ∃ hh : Nat, k / 2 = hh := ⟨_, rfl⟩
        have hh2 : (k : Int).tdiv 2 = hh := by rw [Int.tdiv_eq_ediv_of_nonneg (by omega)]; omega
        have hh3 : wrap64 (hh : Int) = hh := by unfold wrap64; omega
        clear hhe
        obtain ⟨r, hr⟩ : ∃ r, r = x.take 200 := ⟨_, rfl⟩
        have HRX := Lib.hid hr
        clear hr
        have hLr : (L ++ [r]).length = L.length + 1 := by simp
        have HLR : Hid ((L ++ [r]).length = k + 1) := Lib.hid (by rw [hLr, HL.out])
        clear hLr
        have HSR : Hid (Small (L ++ [r])) := Lib.hid (HS.out.add (by rw [HRX.out]; exact short_len x))
        have HSH : Hid (∀ w, Calls Try.prog 14 #[.string ⟨x.toArray⟩] w fun e w' => e = .returned (.string ⟨r.toArray⟩) ∧ w = w') := Lib.hid fun w => (by rw [HRX.out]; exact short_any w x HX.out)
        go_wp2_with fail
        simp only [ld_hide]
        have h := Lib.hid H.out.drew
        go_region_held3 (fun w' => w'.cell? ⟨g, o + k, none⟩ = some (.string ⟨x.toArray⟩))
          (exact (h.out.upd.cell (World.block_lt_of_cell? _ _ HC.out) id).trans HC.out)
          ((first
          | (go_at_call 14; go_must (refine (HSH.out _).mono ?_; rintro e wq ⟨rfl, rfl⟩))
          | (go_at_call 13; go_must (have hc := on_append_small h.out 0 rfl HR.out (by omega) HS.out (by have := HL.out; omega) x; rw [← HRX.out] at hc; refine hc.mono ?_; clear hc; rintro e w6 ⟨s6, rfl, h2, hj6⟩; have h : Hid (Own W w6 [.row bj 61 (jS b (jNext j r)), .disk b s6, .rjS bm ⟨L, [], false, lensI L⟩]) := Lib.hid h2; have HJ6 := Lib.hid hj6; clear h2 hj6))
          | (go_at_call 15; go_must (have hc := on_rapp_yes h.out 2 rfl HS.out (by have := HL.out; omega) x; rw [← HRX.out] at hc; refine hc.mono ?_; clear hc; rintro e w7 ⟨rfl, h2⟩; have h : Hid (Own W w7 [.row bj 61 (jS b (jNext j r)), .disk b s6, .rjS bm ⟨L ++ [r], [], false, lensI (L ++ [r])⟩]) := Lib.hid h2; obtain ⟨A5, c5, d0⟩ := rjs_cell h2 2 rfl; dsimp only at d0; rw [HLR.out] at d0; clear h2))
          | (go_at_call 16; go_must (have hc := on_many h.out HJ6.out; rw [HLR.out] at hc; refine hc.mono ?_; clear hc; rintro e wq ⟨rfl, rfl⟩))
          | (show Oper.wp _ ⟨some 63, _, _, _, _, _⟩ _ _ _ _; simp only [← ld_hide])))
        all_goals go_wp2_with (first
          | (go_at_call 17; show Calls _ _ _ (World.alloc w7 _) _; go_must (have h0 := h.out.newRow 3 #[.int .i64 k, .int .i64 hh]; refine (own_crash h0 2 rfl HJ6.out.fit (by omega) (Aq := some ⟨w7.heap.size, 0, none⟩) (nq := 2) (cq := 2) (q := [(k : Int), (hh : Int)]) (Rd.of_new (cs := #[.int .i64 k, .int .i64 hh]) (h0.row 0 rfl) rfl) (by intro k hk; cases hk; exact (h0.row 0 rfl).lt) (by unfold maxLen; decide)).mono ?_; rintro e w8 ⟨c, rfl, h2⟩; have H8 : Hid (Own W w8 [.disk c (crashedSt s6 [(k : Int), (hh : Int)]), .rjS bm ⟨L ++ [r], [], false, lensI (L ++ [r])⟩]) := Lib.hid h2.drop1.drop1.drop1; clear h2 h0))
          | (go_at_call 11; show Calls _ _ _ w8 _; go_must (refine (on_open H8.out 0 rfl (HJ6.out.crash [(k : Int), (hh : Int)]) (by decide)).mono ?_; rintro e w9 ⟨bk, A6, c6, rfl, h2⟩; rw [HLR.out] at h2 ⊢; have H9 : Hid (Own W w9 [.row bk 61 (jS c (jOpen (jNext j r).p (L ++ [r]))), .sl (.slice A6 (k + 1) c6) 9 1 (ssv (L ++ [r])), .disk c (syncedSt (crashedSt s6 [(k : Int), (hh : Int)])), .rjS bm ⟨L ++ [r], [], false, lensI (L ++ [r])⟩]) := Lib.hid h2; clear h2))
          | (go_at_call 11; show Calls _ _ _ w7 _; go_must (refine (on_open h.out 1 rfl HJ6.out.disk (by omega)).mono ?_; rintro e w11 ⟨bk, A6, c6, rfl, h2⟩; rw [HLR.out] at h2 ⊢; have H11 : Hid (Own W w11 [.row bk 61 (jS b (jOpen (jNext j r).p (L ++ [r]))), .sl (.slice A6 (k + 1) c6) 9 1 (ssv (L ++ [r])), .disk b (syncedSt s6), .rjS bm ⟨L ++ [r], [], false, lensI (L ++ [r])⟩]) := Lib.hid (h2.erase 2); clear h2))
          | (go_at_call 18; show Calls _ _ _ w9 _; go_must (refine (on_opens H9.out 3 1 (by decide) rfl rfl (by have := HLR.out; omega) HSR.out (by have := HLR.out; simp only []; omega) (by simp) (.inl rfl)).mono ?_; rintro e w10 ⟨rfl, h2⟩; have H10 : Hid (Own W w10 [.row bk 61 (jS c (jOpen (jNext j r).p (L ++ [r]))), .disk c (syncedSt (crashedSt s6 [(k : Int), (hh : Int)])), .rjS bm ⟨L ++ [r], [], false, lensI (L ++ [r])⟩]) := Lib.hid h2.drop1; clear h2))
          | (go_at_call 18; show Calls _ _ _ w11 _; go_must (refine (on_opens H11.out 3 1 (by decide) rfl rfl (by have := HLR.out; omega) HSR.out (by have := HLR.out; simp only []; omega) (by simp) (.inl rfl)).mono ?_; rintro e w12 ⟨rfl, h2⟩; have H12 : Hid (Own W w12 [.row bk 61 (jS b (jOpen (jNext j r).p (L ++ [r]))), .disk b (syncedSt s6), .rjS bm ⟨L ++ [r], [], false, lensI (L ++ [r])⟩]) := Lib.hid h2.drop1; clear h2)))
        all_goals (
          go_roundw
          case rel => first
            | exact ⟨k + 1, c, bk, _, _, L ++ [r], by omega, by omega, rfl, rfl, rfl, by go_num, H10.out, (HJ6.out.crash _).on.mono (by omega), HSR.out, HLR.out⟩
            | exact ⟨k + 1, b, bk, _, _, L ++ [r], by omega, by omega, rfl, rfl, rfl, by go_num, H12.out, HJ6.out.disk.on.mono (by omega), HSR.out, HLR.out⟩
            | exact ⟨k + 1, b, bj, s6, _, L ++ [r], by omega, by omega, rfl, rfl, rfl, by go_num, h.out, HJ6.out.mono (by omega), HSR.out, HLR.out⟩
          case measure => simp [intOf]; omega)
      · obtain rfl : k = 20 := by omega
        obtain ⟨A5, c5, d0⟩ := rjs_cell H.out.drew 2 rfl
        dsimp only at d0
        rw [HL.out] at d0
        go_wp2_with fail
        simp only [ld_hide]
        have h := Lib.hid H.out.drew
        go_region_held3 (fun w' => True) (exact trivial) ((first
          | (go_at_call 16; go_must (have hc := on_many h.out HR.out; rw [HL.out] at hc; refine hc.mono ?_; clear hc; rintro e wq ⟨rfl, rfl⟩))
          | (show Oper.wp _ ⟨some 108, _, _, _, _, _⟩ _ _ _ _; simp only [← ld_hide])))
        all_goals go_wp2_with fail
        all_goals go_ret
        all_goals exact ⟨rfl, h.out.upd⟩
    · obtain rfl : k = n0 := by omega
      obtain ⟨A5, c5, d0⟩ := rjs_cell H.out.drew 2 rfl
      dsimp only at d0
      rw [HL.out] at d0
      go_wp2_with fail
      simp only [ld_hide]
      have h := Lib.hid H.out.drew
      go_region_held3 (fun w' => True) (exact trivial) ((first
        | (go_at_call 16; go_must (have hc := on_many h.out HR.out; rw [HL.out] at hc; refine hc.mono ?_; clear hc; rintro e wq ⟨rfl, rfl⟩))
        | (show Oper.wp _ ⟨some 108, _, _, _, _, _⟩ _ _ _ _; simp only [← ld_hide])))
      all_goals go_wp2_with fail
      all_goals go_ret
      all_goals exact ⟨rfl, h.out.upd⟩
end Go.Proofs.Ytcbpgmoegfkhnaa
