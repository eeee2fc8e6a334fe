/- DiskSynced returns true, whatever its arguments. -/
import Derived.Test.YtacghhgiilhkfaaActs
import Derived.Test.YtacghhgiilhkfaaPlain1
namespace Go.Proofs.Ytacghhgiilhkfaa
set_option linter.unusedVariables false
open Go.RowKit

theorem sync_cells {W w : World} {bx bd bm r0 : Nat} {t0 t1 : Int} {a b : Item} {m : List Item} (h : Own W w (.row bx 31 [.pointer (some ⟨bd, 0, none⟩), .pointer (some ⟨bm, 0, none⟩)] :: a :: b :: .row r0 40 [.int .i64 t0, .int .i64 t1] :: m)) :
    w.cell? ⟨bx, 0, none⟩ = some (.pointer (some ⟨bd, 0, none⟩)) ∧ w.cell? ⟨bx, 1, none⟩ = some (.pointer (some ⟨bm, 0, none⟩)) ∧ w.cell? ⟨r0, 0, none⟩ = some (.int .i64 t0) ∧ w.cell? ⟨r0, 1, none⟩ = some (.int .i64 t1) := ⟨(h.row 0 rfl).cell 0, (h.row 0 rfl).cell 1, (h.row 3 rfl).cell 0, (h.row 3 rfl).cell 1⟩

set_option maxRecDepth 20000 in
set_option maxHeartbeats 8000000 in
theorem synced_true (W : World) (A0 : Option Addr) (n0 c0 : Nat) (l : List ActL) (hA : Acts W A0 n0 c0 l) (hm0 : n0 ≤ maxLen) (hL : ∀ a, a ∈ l → ActOk a)
    (t0 t1 : Int) (h0 : in64 t0) (h1 : in64 t1)
    (A2 : Option Addr) (n2 c2 : Nat) (q2 : List Int) (hq2 : Rd W (.slice A2 n2 c2) 1 n2 (ivs q2)) (hqb2 : ∀ k, (Value.slice A2 n2 c2).ownBlock = some k → k < W.heap.size) (hqn2 : n2 ≤ maxLen) :
    Calls Try.prog 5 #[.slice A0 n0 c0, .agg #[.int .i64 t0, .int .i64 t1], .slice A2 n2 c2] W (Sane W) := by
  have HA := Lib.hid hA
  have HL := Lib.hid hL
  have HQ2 := Lib.hid (And.intro hq2 hqb2)
  have HM2 := Lib.hid hqn2
  unfold maxLen at hm0
  have hnc := hA.2.1
  obtain ⟨h01, h02⟩ := h0
  obtain ⟨h11, h12⟩ := h1
  clear hA hL hq2 hqb2 hqn2
  obtain ⟨r0, hr0⟩ : ∃ r0, W.heap.size = r0 := ⟨_, rfl⟩
  have H0 : Hid (Own W (W.alloc (.cells #[.int .i64 t0, .int .i64 t1] 40)) [.row r0 40 [.int .i64 t0, .int .i64 t1]]) := by subst hr0; exact Lib.hid ((Own.start W).newRow _ _)
  obtain ⟨m0, hm0', hm0b⟩ : ∃ m : Nat, modI t0 100 = m ∧ (m : Int) < 100 := modI_nat t0 100 (by decide)
  obtain ⟨m1, hm1', hm1b⟩ : ∃ m : Nat, modI t1 150 = m ∧ (m : Int) < 150 := modI_nat t1 150 (by decide)
  have HM := Lib.hid (And.intro hm0' hm1')
  clear hm0' hm1'
  go_enter Try.func5, Try.ntmps5
  go_wp2_with (first
    | (go_at_call 11; go_must (refine (sanity_any _).mono ?_; rintro e w1 ⟨rfl, hu⟩; have H1 := Lib.hid (H0.out.far hu); clear hu))
    | (go_at_call 12; show Calls _ _ _ w1 _; go_must (refine (own_new H1.out).mono ?_; rintro e w2 ⟨bd0, rfl, h⟩; have H2 : Hid (Own W w2 ([.disk bd0 newSt, .row r0 40 [.int .i64 t0, .int .i64 t1]])) := Lib.hid (h); clear h))
    | (go_at_call 13; show Calls _ _ _ w2 _; go_must (refine (own_rnew H2.out).mono ?_; rintro e w3 ⟨bm0, rfl, h⟩; obtain ⟨bx, hbx⟩ : ∃ bx, w3.heap.size = bx := ⟨_, rfl⟩; have HD0 := Lib.hid (desk_new h); rw [hbx] at HD0; have e0 : (w3.alloc (.cells #[.pointer (some ⟨bd0, 0, none⟩), .pointer (some ⟨bm0, 0, none⟩)] 31)).cell? ⟨bx, 0, none⟩ = some (.pointer (some ⟨bd0, 0, none⟩)) := (by subst hbx; exact (Row.new_at w3 _ _ _ rfl).cell 0); clear h)))
  go_loopw [9] (fun v wr => ∃ (k : Nat) (s : DSt), k ≤ n0 ∧ k ≤ 10 ∧ v = .int .i64 k ∧ DeskAt W wr bx k s [.row r0 40 [.int .i64 t0, .int .i64 t1]] ∧ s.failing = false ∧ s.now.length ≤ 203) (fun v _ => n0 - (intOf v).toNat)
  case atStart => exact ⟨0, newSt, Nat.zero_le _, Nat.zero_le _, rfl, HD0.out, rfl, by simp [newSt]⟩
  case round =>
    obtain ⟨k, s, hkn, hk15, rfl, hD, hsf, hsl⟩ := hrel
    have HD := Lib.hid hD
    clear hD
    by_cases hlt : k < n0
    · by_cases hlt2 : k < 10
      · obtain ⟨a, g, o, hal, rfl, ha⟩ := HA.out.get hlt (Upd.refl _ W)
        obtain ⟨ok0, ok1, ok2, ok3⟩ := HL.out a hal
        have K := Lib.hid (And.intro ok0 (And.intro ok1 (And.intro ok2 ok3)))
        have HB := Lib.hid ha
        obtain ⟨ok11, ok12⟩ := ok1
        clear ok0 ok2 ok3 hal ha
        have hm4 := Int.tmod_lt_of_pos a.off (show (0 : Int) < 4 by decide)
        have hm5 := Int.lt_tmod_of_pos a.off (show (0 : Int) < 4 by decide)
        have KO : Hid (in64 (a.off.tmod 4)) := Lib.hid (by unfold in64; omega)
        have SW := Lib.hid (small_write hsf hsl a.off a.n a.text)
        clear hsf hsl hm4 hm5 ok11 ok12
        go_wp2_with fail
        have h := Lib.hid (HD.out.far ((Upd.refl _ wr).drew))
        go_region_held3 (fun w' => w'.cell? ⟨g, o + k * 4, none⟩ = some (.int .i64 a.kind) ∧ w'.cell? ⟨g, o + k * 4 + 1, none⟩ = some (.int .i64 a.off) ∧ w'.cell? ⟨g, o + k * 4 + 2, none⟩ = some (.int .i64 a.n) ∧ w'.cell? ⟨g, o + k * 4 + 3, none⟩ = some (.string ⟨a.text.toArray⟩))
          (exact HB.out.upd h.out.upd)
          ((first
          | (go_at_call 15; go_must (refine (do_any h.out (by omega) (a := ⟨0, a.off.tmod 4, a.n, a.text⟩) in64_0 KO.out K.out.2.2.1 K.out.2.2.2).mono ?_; rintro e w5 ⟨rfl, h2⟩; have h := Lib.hid h2; clear h2))))
        go_wp2_with fail
        go_roundw
        case rel => exact ⟨k + 1, _, by omega, by omega, by go_num, h.out, SW.out.1, SW.out.2⟩
        case measure => simp [intOf]; omega
      · obtain ⟨bd, bm, s', h, hS, hF, hF'⟩ := HD.out
        have h : Hid (Own W wr ([.row bx 31 [.pointer (some ⟨bd, 0, none⟩), .pointer (some ⟨bm, 0, none⟩)], .disk bd s, .ref bm s', .row r0 40 [.int .i64 t0, .int .i64 t1]])) := Lib.hid h
        obtain ⟨c4, c5, c6, c7⟩ := sync_cells h.out
        obtain ⟨s1, hs1⟩ : ∃ x, x = syncedSt s := ⟨_, rfl⟩
        obtain ⟨off, hoff⟩ : ∃ x : Nat, x = s1.now.length + m0 := ⟨_, rfl⟩
        obtain ⟨s2, hs2⟩ : ∃ x, x = wroteSt s1 off (List.replicate m1 121) := ⟨_, rfl⟩
        have hl1 : s1.now.length ≤ 203 := by rw [hs1]; exact hsl
        have E1 : Hid (syncSt s = (0, s1)) := Lib.hid (by rw [hs1]; exact syncSt_ok hsf)
        have E2 : Hid (writeSt s1 ((s1.now.length : Int) + m0) (List.replicate m1 121) = (0, s2)) := Lib.hid (by
          rw [hs2, ← Int.natCast_add, ← hoff]
          exact writeSt_ok off (by rw [List.length_replicate]; omega) (by rw [hs1]; exact hsf))
        have F0 : Hid (Fit 10 s) := Lib.hid (hF.mono (by omega))
        have F1 : Hid (Fit 11 s1) := Lib.hid (by rw [hs1]; exact F0.out.synced)
        have F2 : Hid (Fit 12 s2) := Lib.hid (by rw [hs2]; exact F1.out.wrote (by rw [List.length_replicate]; omega) (by rw [List.length_replicate]; omega))
        have E3 : Hid (readL (crashedSt s2 q2).now 0 s1.now.length = readL s1.now 0 s1.now.length) := Lib.hid (by
          have hk := crash_keeps q2 s1.now (List.replicate m1 121) off (by omega)
          have he : (crashedSt s2 q2).now = crashL q2 0 (pcsL off (List.replicate m1 121)) s1.now := by rw [hs2, hs1]; rfl
          rw [he]
          exact readL_take _ _ hk.1 hk.2)
        obtain ⟨len, hlen⟩ : ∃ x, s1.now.length = x := ⟨_, rfl⟩
        rw [hlen] at hl1 E2 E3
        have hlb : (len : Int) ≤ 203 := by omega
        have HLEN := Lib.hid hlen
        have hwr := IntWalk.i64_in ((len : Int) + m0) (by omega)
        clear hS hF hF' HD hs1 hs2 hsf hsl hoff hl1 hlen
        go_wp2_with (first
          | (go_at_call 22; go_must (have hc := own_sync h.out 1 rfl F0.out (by decide); rw [E1.out] at hc; refine hc.mono ?_; clear hc; rintro e w6 ⟨rfl, h2⟩; have h : Hid (Own W w6 ([.row bx 31 [.pointer (some ⟨bd, 0, none⟩), .pointer (some ⟨bm, 0, none⟩)], .disk bd s1, .ref bm s', .row r0 40 [.int .i64 t0, .int .i64 t1]])) := Lib.hid h2; clear h2; obtain ⟨c4, c5, c6, c7⟩ := sync_cells h.out))
          | (go_at_call 23; go_must (have hc := own_size h.out 1 rfl; rw [HLEN.out] at hc; refine hc.mono ?_; clear hc; rintro e w' ⟨rfl, rfl⟩))
          | (go_at_call 24; go_must (refine (own_read h.out 1 rfl F1.out 0 len (by decide) (by omega)).mono ?_; rintro e w7 ⟨rfl, h2⟩; have h : Hid (Own W w7 ([.row bx 31 [.pointer (some ⟨bd, 0, none⟩), .pointer (some ⟨bm, 0, none⟩)], .disk bd s1, .ref bm s', .row r0 40 [.int .i64 t0, .int .i64 t1]])) := Lib.hid h2; clear h2; obtain ⟨c4, c5, c6, c7⟩ := sync_cells h.out)))
        have h := Lib.hid h.out.drew
        go_region_held3 (fun w' => w'.cell? ⟨bx, 0, none⟩ = some (.pointer (some ⟨bd, 0, none⟩)) ∧ w'.cell? ⟨bx, 1, none⟩ = some (.pointer (some ⟨bm, 0, none⟩)) ∧ w'.cell? ⟨r0, 0, none⟩ = some (.int .i64 t0) ∧ w'.cell? ⟨r0, 1, none⟩ = some (.int .i64 t1))
          (exact sync_cells h.out)
          ((first
          | (go_at_call 14; go_must (refine (mod_any _ _ _ (by decide) (by decide) (by omega) (by omega)).mono ?_; rintro e w' ⟨rfl, rfl⟩; first | rw [HM.out.1] | rw [HM.out.2]))
          | (go_at_call 20; go_must (refine (repeated_y _ m1 (by omega)).mono ?_; rintro e w8 ⟨rfl, hu⟩; have h := Lib.hid (h.out.far hu); clear hu))
          | (go_at_call 21; go_must (rw [← List.toArray_replicate]; have hc := own_write h.out 1 rfl F1.out (by decide) ((len : Int) + m0) (List.replicate m1 121) (by rw [List.length_replicate]; omega); rw [E2.out] at hc; refine hc.mono ?_; clear hc; rintro e w9 ⟨rfl, h2⟩; have h : Hid (Own W w9 ([.row bx 31 [.pointer (some ⟨bd, 0, none⟩), .pointer (some ⟨bm, 0, none⟩)], .disk bd s2, .ref bm s', .row r0 40 [.int .i64 t0, .int .i64 t1]])) := Lib.hid h2; clear h2; obtain ⟨c4, c5, c6, c7⟩ := sync_cells h.out))))
        go_wp2_with (first
          | (go_at_call 16; go_must (refine (own_crash h.out 1 rfl F2.out (by decide) (h.out.rd HQ2.out.1 HQ2.out.2).1 (h.out.rd HQ2.out.1 HQ2.out.2).2 HM2.out).mono ?_; rintro e w10 ⟨c, rfl, h2⟩; have h := Lib.hid h2; clear h2))
          | (go_at_call 24; go_must (have hc := own_read h.out 0 rfl (F2.out.crashed q2) 0 len (by decide) (by omega); rw [E3.out] at hc; refine hc.mono ?_; clear hc; rintro e w11 ⟨rfl, h2⟩; have h := Lib.hid h2; clear h2)))
        go_ret
        exact ⟨rfl, h.out.upd⟩
    · obtain ⟨bd, bm, s', h, hS, hF, hF'⟩ := HD.out
      have h : Hid (Own W wr ([.row bx 31 [.pointer (some ⟨bd, 0, none⟩), .pointer (some ⟨bm, 0, none⟩)], .disk bd s, .ref bm s', .row r0 40 [.int .i64 t0, .int .i64 t1]])) := Lib.hid h
      obtain ⟨c4, c5, c6, c7⟩ := sync_cells h.out
      obtain ⟨s1, hs1⟩ : ∃ x, x = syncedSt s := ⟨_, rfl⟩
      obtain ⟨off, hoff⟩ : ∃ x : Nat, x = s1.now.length + m0 := ⟨_, rfl⟩
      obtain ⟨s2, hs2⟩ : ∃ x, x = wroteSt s1 off (List.replicate m1 121) := ⟨_, rfl⟩
      have hl1 : s1.now.length ≤ 203 := by rw [hs1]; exact hsl
      have E1 : Hid (syncSt s = (0, s1)) := Lib.hid (by rw [hs1]; exact syncSt_ok hsf)
      have E2 : Hid (writeSt s1 ((s1.now.length : Int) + m0) (List.replicate m1 121) = (0, s2)) := Lib.hid (by
        rw [hs2, ← Int.natCast_add, ← hoff]
        exact writeSt_ok off (by rw [List.length_replicate]; omega) (by rw [hs1]; exact hsf))
      have F0 : Hid (Fit 10 s) := Lib.hid (hF.mono (by omega))
      have F1 : Hid (Fit 11 s1) := Lib.hid (by rw [hs1]; exact F0.out.synced)
      have F2 : Hid (Fit 12 s2) := Lib.hid (by rw [hs2]; exact F1.out.wrote (by rw [List.length_replicate]; omega) (by rw [List.length_replicate]; omega))
      have E3 : Hid (readL (crashedSt s2 q2).now 0 s1.now.length = readL s1.now 0 s1.now.length) := Lib.hid (by
        have hk := crash_keeps q2 s1.now (List.replicate m1 121) off (by omega)
        have he : (crashedSt s2 q2).now = crashL q2 0 (pcsL off (List.replicate m1 121)) s1.now := by rw [hs2, hs1]; rfl
        rw [he]
        exact readL_take _ _ hk.1 hk.2)
      obtain ⟨len, hlen⟩ : ∃ x, s1.now.length = x := ⟨_, rfl⟩
      rw [hlen] at hl1 E2 E3
      have hlb : (len : Int) ≤ 203 := by omega
      have HLEN := Lib.hid hlen
      have hwr := IntWalk.i64_in ((len : Int) + m0) (by omega)
      clear hS hF hF' HD hs1 hs2 hsf hsl hoff hl1 hlen
      go_wp2_with (first
        | (go_at_call 22; go_must (have hc := own_sync h.out 1 rfl F0.out (by decide); rw [E1.out] at hc; refine hc.mono ?_; clear hc; rintro e w6 ⟨rfl, h2⟩; have h : Hid (Own W w6 ([.row bx 31 [.pointer (some ⟨bd, 0, none⟩), .pointer (some ⟨bm, 0, none⟩)], .disk bd s1, .ref bm s', .row r0 40 [.int .i64 t0, .int .i64 t1]])) := Lib.hid h2; clear h2; obtain ⟨c4, c5, c6, c7⟩ := sync_cells h.out))
        | (go_at_call 23; go_must (have hc := own_size h.out 1 rfl; rw [HLEN.out] at hc; refine hc.mono ?_; clear hc; rintro e w' ⟨rfl, rfl⟩))
        | (go_at_call 24; go_must (refine (own_read h.out 1 rfl F1.out 0 len (by decide) (by omega)).mono ?_; rintro e w7 ⟨rfl, h2⟩; have h : Hid (Own W w7 ([.row bx 31 [.pointer (some ⟨bd, 0, none⟩), .pointer (some ⟨bm, 0, none⟩)], .disk bd s1, .ref bm s', .row r0 40 [.int .i64 t0, .int .i64 t1]])) := Lib.hid h2; clear h2; obtain ⟨c4, c5, c6, c7⟩ := sync_cells h.out)))
      have h := Lib.hid h.out.drew
      go_region_held3 (fun w' => w'.cell? ⟨bx, 0, none⟩ = some (.pointer (some ⟨bd, 0, none⟩)) ∧ w'.cell? ⟨bx, 1, none⟩ = some (.pointer (some ⟨bm, 0, none⟩)) ∧ w'.cell? ⟨r0, 0, none⟩ = some (.int .i64 t0) ∧ w'.cell? ⟨r0, 1, none⟩ = some (.int .i64 t1))
        (exact sync_cells h.out)
        ((first
        | (go_at_call 14; go_must (refine (mod_any _ _ _ (by decide) (by decide) (by omega) (by omega)).mono ?_; rintro e w' ⟨rfl, rfl⟩; first | rw [HM.out.1] | rw [HM.out.2]))
        | (go_at_call 20; go_must (refine (repeated_y _ m1 (by omega)).mono ?_; rintro e w8 ⟨rfl, hu⟩; have h := Lib.hid (h.out.far hu); clear hu))
        | (go_at_call 21; go_must (rw [← List.toArray_replicate]; have hc := own_write h.out 1 rfl F1.out (by decide) ((len : Int) + m0) (List.replicate m1 121) (by rw [List.length_replicate]; omega); rw [E2.out] at hc; refine hc.mono ?_; clear hc; rintro e w9 ⟨rfl, h2⟩; have h : Hid (Own W w9 ([.row bx 31 [.pointer (some ⟨bd, 0, none⟩), .pointer (some ⟨bm, 0, none⟩)], .disk bd s2, .ref bm s', .row r0 40 [.int .i64 t0, .int .i64 t1]])) := Lib.hid h2; clear h2; obtain ⟨c4, c5, c6, c7⟩ := sync_cells h.out))))
      go_wp2_with (first
        | (go_at_call 16; go_must (refine (own_crash h.out 1 rfl F2.out (by decide) (h.out.rd HQ2.out.1 HQ2.out.2).1 (h.out.rd HQ2.out.1 HQ2.out.2).2 HM2.out).mono ?_; rintro e w10 ⟨c, rfl, h2⟩; have h := Lib.hid h2; clear h2))
        | (go_at_call 24; go_must (have hc := own_read h.out 0 rfl (F2.out.crashed q2) 0 len (by decide) (by omega); rw [E3.out] at hc; refine hc.mono ?_; clear hc; rintro e w11 ⟨rfl, h2⟩; have h := Lib.hid h2; clear h2)))
      go_ret
      exact ⟨rfl, h.out.upd⟩
end Go.Proofs.Ytacghhgiilhkfaa
