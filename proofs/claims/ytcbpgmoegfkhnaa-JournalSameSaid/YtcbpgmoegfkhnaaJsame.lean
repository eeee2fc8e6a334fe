/- JournalSame returns true, whatever its arguments. -/
import Derived.Test.YtcbpgmoegfkhnaaJrun
import Derived.Deep.RegionHeld
namespace Go.Proofs.Ytcbpgmoegfkhnaa
set_option linter.unusedVariables false
open Go.RowKit

set_option maxHeartbeats 8000000 in
set_option maxRecDepth 20000 in
theorem same_true (W : World) (A0 : Option Addr) (n0 c0 : Nat) (l0 : List (List UInt8)) (hl0 : Strs W A0 n0 c0 l0) (z1 : Int) (hz1 : 0 ≤ z1) (hy1 : z1 < 256)
    (A2 : Option Addr) (n2 c2 : Nat) (q2 : List Int) (hq2 : Rd W (.slice A2 n2 c2) 1 n2 (ivs q2)) (hqb2 : ∀ k, (Value.slice A2 n2 c2).ownBlock = some k → k < W.heap.size) (hqn2 : n2 ≤ maxLen) :
    Calls Try.prog 5 #[.slice A0 n0 c0, .int .u8 z1, .slice A2 n2 c2] W (Sane W) := by
  have HA := Lib.hid hl0
  have hm0 := hl0.len
  unfold maxLen at hm0
  have HQ2 := Lib.hid (And.intro hq2 hqb2)
  have HM2 := Lib.hid hqn2
  clear hl0 hq2 hqb2 hqn2
  obtain ⟨p, hp⟩ : ∃ p : Nat, z1 % 9 = p := ⟨(z1 % 9).toNat, by omega⟩
  have hp1 : p < 9 := by omega
  have hp2 : z1.tmod 9 = p := by rw [Int.tmod_eq_emod_of_nonneg hz1]; exact hp
  have hp3 : IntKind.u8.wrap (p : Int) = p := by apply IntWalk.u8_in <;> omega
  obtain ⟨u, hu⟩ : ∃ u : Nat, n0 / 2 = u := ⟨_, rfl⟩
  have hu2 : (n0 : Int).tdiv 2 = u := by rw [Int.tdiv_eq_ediv_of_nonneg (by omega)]; omega
  have hu3 : wrap64 (u : Int) = u := by unfold wrap64; omega
  clear hp hu hz1 hy1
  have H0 : Hid (Own W W []) := Lib.hid (Own.start W)
  go_enter Try.func5, Try.ntmps5
  go_wp2_with (first
    | (go_at_call 9; go_must (refine (sanity_any _).mono ?_; rintro e w1 ⟨rfl, hu⟩; have H1 := Lib.hid (H0.out.far hu); clear hu))
    | (go_at_call 10; show Calls _ _ _ w1 _; go_must (refine (own_new H1.out).mono ?_; rintro e w2 ⟨b, rfl, h⟩; have H2 : Hid (Own W w2 ([.disk b newSt])) := Lib.hid h; clear h))
    | (go_at_call 11; show Calls _ _ _ w2 _; go_must (refine (on_open H2.out 0 rfl DOn.new (by decide)).mono ?_; rintro e w3 ⟨bj, Ax, cx, rfl, h⟩; have H3 : Hid (Own W w3 [.row bj 61 (jS b (jOpen 0 [])), .disk b (syncedSt newSt)]) := Lib.hid h.drop1; clear h))
    | (go_at_call 12; show Calls _ _ _ w3 _; go_must (refine (rjnew_any H3.out).mono ?_; rintro e w4 ⟨bm, rfl, h⟩; have H4 : Hid (Own W w4 [.row bj 61 (jS b (jOpen 0 [])), .disk b (syncedSt newSt), .rjS bm ⟨[], [], false, 0⟩]) := Lib.hid (h.swap.swap2); clear h)))
  go_loopw [13] (fun v wr => ∃ (k : Nat) (s : DSt) (j : JSt) (mj : RjS), k ≤ n0 ∧ k ≤ 10 ∧ v = .int .i64 k ∧ Own W wr [.row bj 61 (jS b j), .disk b s, .rjS bm mj] ∧ Run s j mj (5 * k + 1)) (fun v _ => n0 - (intOf v).toNat)
  case atStart => exact ⟨0, _, _, _, Nat.zero_le _, Nat.zero_le _, rfl, H4.out, Run.start DOn.new (by simp) (by decide) Small.nil rfl rfl rfl rfl⟩
  case round =>
    obtain ⟨k, s, j, mj, hkn, hk10, rfl, h, hR⟩ := hrel
    have H := Lib.hid h
    have HR := Lib.hid hR
    clear h hR
    by_cases hlt : k < n0
    · by_cases hlt2 : k < 10
      · obtain ⟨g, o, x, rfl, hx, _, cW⟩ := HA.out.get hlt (Upd.refl _ W)
        have HX := Lib.hid hx
        have HC := Lib.hid cW
        have cr : wr.cell? ⟨g, o + k, none⟩ = some (.string ⟨x.toArray⟩) := (H.out.upd.cell (World.block_lt_of_cell? _ _ cW) id).trans cW
        clear hx cW
        by_cases hku : k = u
        · subst hku
          go_wp2_with (first
            | (go_at_call 19; go_must (refine (own_fail H.out 1 rfl p).mono ?_; rintro e w5 ⟨rfl, h⟩; have H5 : Hid (Own W w5 [.row bj 61 (jS b j), .disk b (failSt s p), .rjS bm mj]) := Lib.hid h; clear h)))
          have HRF := Lib.hid (HR.out.fail (c := p) (by omega) (by omega))
          have h := H5
          obtain ⟨x1, s1, j1, he⟩ : ∃ x1 s1 j1, appendSt (failSt s p) j (x.take 200) = (x1, s1, j1) := ⟨_, _, _, rfl⟩
          have hs := HRF.out.step (by omega) (short_len x) he
          have HE := Lib.hid he
          have HS := Lib.hid hs
          clear he hs
          have h := Lib.hid h.out.drew
          go_region_held3 (fun w' => w'.cell? ⟨g, o + k, none⟩ = some (.string ⟨x.toArray⟩))
            (exact (h.out.upd.cell (World.block_lt_of_cell? _ _ HC.out) id).trans HC.out)
            ((first
            | (go_at_call 14; go_must (refine (short_any _ x HX.out).mono ?_; rintro e wq ⟨rfl, rfl⟩))
            | (go_at_call 13; go_must (have hc := append_any h.out 0 rfl HRF.out.fit (by omega) HRF.out.jfit (x.take 200) (by have := short_len x; omega); rw [HE.out] at hc; refine hc.mono ?_; clear hc; rintro e w6 ⟨rfl, h2⟩; have h : Hid (Own W w6 [.row bj 61 (jS b j1), .disk b s1, .rjS bm mj]) := Lib.hid h2; clear h2))
            | (go_at_call 15; go_must (refine (on_rapp h.out 2 rfl HRF.out (by omega) (x.take 200) (short_len x) (x1 == 0)).mono ?_; rintro e w7 ⟨rfl, h2⟩; have h : Hid (Own W w7 [.row bj 61 (jS b j1), .disk b s1, .rjS bm (rappSt mj (x.take 200) (x1 == 0)).2]) := Lib.hid h2; clear h2))))
          go_wp2_with fail
          go_roundw
          case rel => exact ⟨k + 1, s1, j1, _, by omega, by omega, by go_num, h.out, ⟨HS.out.1.fit.mono (by omega), by have := HS.out.1.len; omega, HS.out.1.small, HS.out.1.mlen, HS.out.1.bytes, HS.out.1.jfit, HS.out.1.ways⟩⟩
          case measure => simp [intOf]; omega
        · have hku2 : ((k : Int) == (u : Int)) = false := by rw [beq_eq_false_iff_ne]; omega
          go_wp2_with fail
          have HRF := HR
          have h := H
          obtain ⟨x1, s1, j1, he⟩ : ∃ x1 s1 j1, appendSt s j (x.take 200) = (x1, s1, j1) := ⟨_, _, _, rfl⟩
          have hs := HRF.out.step (by omega) (short_len x) he
          have HE := Lib.hid he
          have HS := Lib.hid hs
          clear he hs
          have h := Lib.hid h.out.drew
          go_region_held3 (fun w' => w'.cell? ⟨g, o + k, none⟩ = some (.string ⟨x.toArray⟩))
            (exact (h.out.upd.cell (World.block_lt_of_cell? _ _ HC.out) id).trans HC.out)
            ((first
            | (go_at_call 14; go_must (refine (short_any _ x HX.out).mono ?_; rintro e wq ⟨rfl, rfl⟩))
            | (go_at_call 13; go_must (have hc := append_any h.out 0 rfl HRF.out.fit (by omega) HRF.out.jfit (x.take 200) (by have := short_len x; omega); rw [HE.out] at hc; refine hc.mono ?_; clear hc; rintro e w6 ⟨rfl, h2⟩; have h : Hid (Own W w6 [.row bj 61 (jS b j1), .disk b s1, .rjS bm mj]) := Lib.hid h2; clear h2))
            | (go_at_call 15; go_must (refine (on_rapp h.out 2 rfl HRF.out (by omega) (x.take 200) (short_len x) (x1 == 0)).mono ?_; rintro e w7 ⟨rfl, h2⟩; have h : Hid (Own W w7 [.row bj 61 (jS b j1), .disk b s1, .rjS bm (rappSt mj (x.take 200) (x1 == 0)).2]) := Lib.hid h2; clear h2))))
          go_wp2_with fail
          go_roundw
          case rel => exact ⟨k + 1, s1, j1, _, by omega, by omega, by go_num, h.out, ⟨HS.out.1.fit.mono (by omega), by have := HS.out.1.len; omega, HS.out.1.small, HS.out.1.mlen, HS.out.1.bytes, HS.out.1.jfit, HS.out.1.ways⟩⟩
          case measure => simp [intOf]; omega
      · obtain rfl : k = 10 := by omega
        obtain ⟨pp, L, ho, hmay, hLn, hLS⟩ := (HR.out.fail (c := -1) (by decide) (by decide)).now
        have hd : DOn (failSt s (-1)) pp L (5 * 10 + 1 + 1) := ⟨ho, rfl, HR.out.fit.fail (by decide) (by decide)⟩
        have HD := Lib.hid hd
        have HM := Lib.hid (And.intro hmay (And.intro hLn hLS))
        clear ho hmay hLn hLS hd
        go_wp2_with (first
          | (go_at_call 19; go_must (refine (own_fail H.out 1 rfl (-1)).mono ?_; rintro e w5 ⟨rfl, h⟩; have H5 : Hid (Own W w5 [.disk b (failSt s (-1)), .rjS bm mj]) := Lib.hid h.tail; clear h))
          | (go_at_call 11; show Calls _ _ _ w5 _; go_must (refine (on_open H5.out 0 rfl HD.out (by omega)).mono ?_; rintro e w6 ⟨bk, A3, c3, rfl, h⟩; have H6 : Hid (Own W w6 [.sl (.slice A3 L.length c3) 9 1 (ssv L), .disk b (syncedSt (failSt s (-1))), .rjS bm mj]) := Lib.hid h.tail; clear h))
          | (go_at_call 18; go_must (refine (on_opens H6.out 2 0 (by decide) rfl rfl (by have := HM.out.2.1; omega) HM.out.2.2 (by have := HR.out.len; omega) HR.out.mlen HM.out.1).mono ?_; rintro e w7 ⟨rfl, h⟩; have H7 : Hid (Own W w7 [.sl (.slice A3 L.length c3) 9 1 (ssv L), .disk b (syncedSt (failSt s (-1)))]) := Lib.hid (h.erase 2); clear h))
          | (go_at_call 17; go_must (refine (own_crash H7.out 1 rfl HD.out.on.fit (by omega) (H7.out.rd HQ2.out.1 HQ2.out.2).1 (H7.out.rd HQ2.out.1 HQ2.out.2).2 HM2.out).mono ?_; rintro e w8 ⟨c, rfl, h⟩; have H8 : Hid (Own W w8 [.disk c (crashedSt (syncedSt (failSt s (-1))) q2), .sl (.slice A3 L.length c3) 9 1 (ssv L)]) := Lib.hid (h.erase 2); clear h))
          | (go_at_call 11; show Calls _ _ _ w8 _; go_must (refine (on_open H8.out 0 rfl (HD.out.on.crash q2) (by decide)).mono ?_; rintro e w9 ⟨bl, A4, c4, rfl, h⟩; have H9 : Hid (Own W w9 [.sl (.slice A4 L.length c4) 9 1 (ssv L), .sl (.slice A3 L.length c3) 9 1 (ssv L)]) := Lib.hid h.tail.drop1; clear h))
          | (go_at_call 20; go_must (refine (same_first (sl_rd H9.out 0 rfl) (sl_rd H9.out 1 rfl) rfl (Nat.le_refl _) List.take_length (by have := HM.out.2.1; unfold maxLen; omega)).mono ?_; rintro e w10 ⟨rfl, hu⟩; have H10 := Lib.hid (H9.out.far hu); clear hu)))
        go_ret
        exact ⟨rfl, H10.out.upd⟩
    · obtain rfl : k = n0 := by omega
      obtain ⟨pp, L, ho, hmay, hLn, hLS⟩ := (HR.out.fail (c := -1) (by decide) (by decide)).now
      have hd : DOn (failSt s (-1)) pp L (5 * k + 1 + 1) := ⟨ho, rfl, HR.out.fit.fail (by decide) (by decide)⟩
      have HD := Lib.hid hd
      have HM := Lib.hid (And.intro hmay (And.intro hLn hLS))
      clear ho hmay hLn hLS hd
      go_wp2_with (first
        | (go_at_call 19; go_must (refine (own_fail H.out 1 rfl (-1)).mono ?_; rintro e w5 ⟨rfl, h⟩; have H5 : Hid (Own W w5 [.disk b (failSt s (-1)), .rjS bm mj]) := Lib.hid h.tail; clear h))
        | (go_at_call 11; show Calls _ _ _ w5 _; go_must (refine (on_open H5.out 0 rfl HD.out (by omega)).mono ?_; rintro e w6 ⟨bk, A3, c3, rfl, h⟩; have H6 : Hid (Own W w6 [.sl (.slice A3 L.length c3) 9 1 (ssv L), .disk b (syncedSt (failSt s (-1))), .rjS bm mj]) := Lib.hid h.tail; clear h))
        | (go_at_call 18; go_must (refine (on_opens H6.out 2 0 (by decide) rfl rfl (by have := HM.out.2.1; omega) HM.out.2.2 (by have := HR.out.len; omega) HR.out.mlen HM.out.1).mono ?_; rintro e w7 ⟨rfl, h⟩; have H7 : Hid (Own W w7 [.sl (.slice A3 L.length c3) 9 1 (ssv L), .disk b (syncedSt (failSt s (-1)))]) := Lib.hid (h.erase 2); clear h))
        | (go_at_call 17; go_must (refine (own_crash H7.out 1 rfl HD.out.on.fit (by omega) (H7.out.rd HQ2.out.1 HQ2.out.2).1 (H7.out.rd HQ2.out.1 HQ2.out.2).2 HM2.out).mono ?_; rintro e w8 ⟨c, rfl, h⟩; have H8 : Hid (Own W w8 [.disk c (crashedSt (syncedSt (failSt s (-1))) q2), .sl (.slice A3 L.length c3) 9 1 (ssv L)]) := Lib.hid (h.erase 2); clear h))
        | (go_at_call 11; show Calls _ _ _ w8 _; go_must (refine (on_open H8.out 0 rfl (HD.out.on.crash q2) (by decide)).mono ?_; rintro e w9 ⟨bl, A4, c4, rfl, h⟩; have H9 : Hid (Own W w9 [.sl (.slice A4 L.length c4) 9 1 (ssv L), .sl (.slice A3 L.length c3) 9 1 (ssv L)]) := Lib.hid h.tail.drop1; clear h))
        | (go_at_call 20; go_must (refine (same_first (sl_rd H9.out 0 rfl) (sl_rd H9.out 1 rfl) rfl (Nat.le_refl _) List.take_length (by have := HM.out.2.1; unfold maxLen; omega)).mono ?_; rintro e w10 ⟨rfl, hu⟩; have H10 := Lib.hid (H9.out.far hu); clear hu)))
      go_ret
      exact ⟨rfl, H10.out.upd⟩
end Go.Proofs.Ytcbpgmoegfkhnaa
