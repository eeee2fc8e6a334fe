/- DiskOwn returns true, whatever its arguments. -/
import Derived.Test.YtacghhgiilhkfaaLawKit
namespace Go.Proofs.Ytacghhgiilhkfaa
open Go.RowKit

set_option maxHeartbeats 4000000 in
theorem own_true (W : World) (l : List UInt8) (hl : l.length ≤ maxLen) (Aq : Option Addr) (nq cq : Nat) (qs : List Int) (hq : Rd W (.slice Aq nq cq) 1 nq (ivs qs)) (hqb : ∀ k, (Value.slice Aq nq cq).ownBlock = some k → k < W.heap.size) (hqn : nq ≤ maxLen)
    (t0 t1 : Int) (h0 : in64 t0) (h1 : in64 t1) :
    Calls Try.prog 6 #[.string ⟨l.toArray⟩, .slice Aq nq cq, .agg #[.int .i64 t0, .int .i64 t1]] W (Sane W) := by
  obtain ⟨h01, h02⟩ := h0
  obtain ⟨h11, h12⟩ := h1
  unfold maxLen at hl
  obtain ⟨r0, hr0⟩ : ∃ r0, W.heap.size = r0 := ⟨_, rfl⟩
  have H0 : Hid (Own W (W.alloc (.cells #[.int .i64 t0, .int .i64 t1] 40)) [.row r0 40 [.int .i64 t0, .int .i64 t1]]) := by subst hr0; exact Lib.hid ((Own.start W).newRow _ _)
  obtain ⟨m0, hm0, hm0b⟩ : ∃ m : Nat, modI t0 100 = m ∧ (m : Int) < 100 := modI_nat t0 100 (by decide)
  obtain ⟨m1, hm1, hm1b⟩ : ∃ m : Nat, modI t1 100 = m ∧ (m : Int) < 100 := modI_nat t1 100 (by decide)
  have HM := Lib.hid (And.intro hm0 hm1)
  obtain ⟨q, hqq, hq150, hql⟩ := min_nat l.length 150
  have HQ := Lib.hid hqq
  obtain ⟨s1, hs1⟩ : ∃ s, s = wroteSt newSt 0 (l.take q ++ [101, 110, 100]) := ⟨_, rfl⟩
  obtain ⟨s2, hs2⟩ : ∃ s, s = syncedSt s1 := ⟨_, rfl⟩
  obtain ⟨s3, hs3⟩ : ∃ s, s = wroteSt s2 m0 [110, 101, 119] := ⟨_, rfl⟩
  obtain ⟨s4, hs4⟩ : ∃ s, s = wroteSt (crashedSt s3 qs) m1 [99, 114, 97, 115, 104] := ⟨_, rfl⟩
  obtain ⟨s5, hs5⟩ : ∃ s, s = wroteSt s3 0 [99, 104, 97, 110, 103, 101, 100, 32, 97, 103, 97, 105, 110] := ⟨_, rfl⟩
  have E1 : Hid (writeSt newSt 0 (l.take q ++ [101, 110, 100]) = (0, s1)) := Lib.hid (by rw [hs1]; exact writeSt_ok 0 (by simp; omega) rfl)
  have E2 : Hid (syncSt s1 = (0, s2)) := Lib.hid (by rw [hs2]; exact syncSt_ok (by rw [hs1]; rfl))
  have E3 : Hid (writeSt s2 m0 [110, 101, 119] = (0, s3)) := Lib.hid (by rw [hs3]; exact writeSt_ok m0 (by simp; omega) (by rw [hs2, hs1]; rfl))
  have E4 : Hid (writeSt (crashedSt s3 qs) m1 [99, 114, 97, 115, 104] = (0, s4)) := Lib.hid (by rw [hs4]; exact writeSt_ok m1 (by simp; omega) rfl)
  have E5 : Hid (writeSt s3 0 [99, 104, 97, 110, 103, 101, 100, 32, 97, 103, 97, 105, 110] = (0, s5)) := Lib.hid (by rw [hs5]; exact writeSt_ok 0 (by simp) (by rw [hs3, hs2, hs1]; rfl))
  have E6 : Hid (s4.calls = 1) := Lib.hid (by rw [hs4]; rfl)
  have F1 : Hid (Fit 1 s1) := Lib.hid (by rw [hs1]; exact Fit.new.wrote (by simp; omega) (by simp; omega))
  have F2 : Hid (Fit 2 s2) := Lib.hid (by rw [hs2]; exact F1.out.synced)
  have F3 : Hid (Fit 3 s3) := Lib.hid (by rw [hs3]; exact F2.out.wrote (by simp; omega) (by simp))
  have F4 : Hid (Fit 1 s4) := Lib.hid (by rw [hs4]; exact (F3.out.crashed qs).wrote (by simp; omega) (by simp))
  have F5 : Hid (Fit 4 s5) := Lib.hid (by rw [hs5]; exact F3.out.wrote (by simp) (by simp))
  have HR := Lib.hid (And.intro hq hqb)
  have hcut : (ByteArray.mk l.toArray).extract 0 q = ⟨(l.take q).toArray⟩ := by rw [extract_mid]; simp
  have happ : ByteArray.mk (l.take q).toArray ++ ⟨#[101, 110, 100]⟩ = ⟨(l.take q ++ [101, 110, 100]).toArray⟩ := str_append _ _
  clear hs1 hs2 hs3 hs4 hs5 hm0 hm1 hqq hq hqb
  go_enter Try.func6, Try.ntmps6
  go_wp2_with (first
    | (go_at_call 11; go_must (refine (sanity_any _).mono ?_; rintro e w1 ⟨rfl, hu⟩; have H1 := Lib.hid (H0.out.far hu); clear hu))
    | (go_at_call 12; show Calls _ _ _ w1 _; go_must (refine (own_new H1.out).mono ?_; rintro e w2 ⟨b, rfl, h⟩; have H2 : Hid (Own W w2 ([.disk b newSt, .row r0 40 [.int .i64 t0, .int .i64 t1]])) := Lib.hid (h); clear h))
    | (show wpList _ _ _ (⟨some 26, _, _, _, _, _⟩ :: _) _ _; go_must (refine wpList_min rfl (.tmp 25) (.const (.int .i64 150)) _ rfl (kk := .i64) (kk' := .i64) (p := l.length) (r := 150) rfl rfl HQ.out ?_))
    | (go_at_call 21; show Calls _ _ _ w2 _; go_must (have hc := own_write H2.out 0 rfl Fit.new (by decide) 0 (l.take q ++ [101, 110, 100]) (by simp; omega); rw [E1.out] at hc; refine hc.mono ?_; rintro e w3 ⟨rfl, h⟩; have H3 : Hid (Own W w3 ([.disk b s1, .row r0 40 [.int .i64 t0, .int .i64 t1]])) := Lib.hid (h); clear h; clear hc))
    | (go_at_call 22; show Calls _ _ _ w3 _; go_must (have hc := own_sync H3.out 0 rfl F1.out (by decide); rw [E2.out] at hc; refine hc.mono ?_; rintro e w4 ⟨rfl, h⟩; have H4 : Hid (Own W w4 ([.disk b s2, .row r0 40 [.int .i64 t0, .int .i64 t1]])) := Lib.hid (h); clear h; clear hc; have c0 : w4.cell? ⟨r0, 0, none⟩ = some (.int .i64 t0) := (H4.out.row 1 rfl).cell 0))
    | (go_at_call 14; show Calls _ _ _ w4 _; go_must (refine (mod_any _ _ _ (by decide) (by decide) (by omega) (by omega)).mono ?_; rintro e w' ⟨rfl, rfl⟩; rw [HM.out.1]))
    | (go_at_call 21; show Calls _ _ _ w4 _; go_must (have hc := own_write H4.out 0 rfl F2.out (by decide) m0 [110, 101, 119] (by simp); rw [E3.out] at hc; refine hc.mono ?_; rintro e w5 ⟨rfl, h⟩; have H5 : Hid (Own W w5 ([.disk b s3, .row r0 40 [.int .i64 t0, .int .i64 t1]])) := Lib.hid (h); clear h; clear hc))
    | (go_at_call 16; show Calls _ _ _ w5 _; go_must (refine (own_crash H5.out 0 rfl F3.out (by decide) (H5.out.rd HR.out.1 HR.out.2).1 (H5.out.rd HR.out.1 HR.out.2).2 hqn).mono ?_; rintro e w6 ⟨c, rfl, h⟩; have H6 : Hid (Own W w6 ([.disk c (crashedSt s3 qs), .disk b s3, .row r0 40 [.int .i64 t0, .int .i64 t1]])) := Lib.hid (h); clear h))
    | (go_at_call 24; show Calls _ _ _ w6 _; go_must (have hc := own_read H6.out 1 rfl F3.out 0 500 (by decide) (by decide); refine hc.mono ?_; rintro e w7 ⟨rfl, h⟩; have H7 : Hid (Own W w7 ([.disk c (crashedSt s3 qs), .disk b s3, .row r0 40 [.int .i64 t0, .int .i64 t1]])) := Lib.hid (h); clear h; clear hc; have d1 : w7.cell? ⟨r0, 1, none⟩ = some (.int .i64 t1) := (H7.out.row 2 rfl).cell 1))
    | (go_at_call 14; show Calls _ _ _ w7 _; go_must (refine (mod_any _ _ _ (by decide) (by decide) (by omega) (by omega)).mono ?_; rintro e w' ⟨rfl, rfl⟩; rw [HM.out.2]))
    | (go_at_call 21; show Calls _ _ _ w7 _; go_must (have hc := own_write H7.out 0 rfl (F3.out.crashed qs) (by decide) m1 [99, 114, 97, 115, 104] (by simp); rw [E4.out] at hc; refine hc.mono ?_; rintro e w8 ⟨rfl, h⟩; have H8 : Hid (Own W w8 ([.disk c s4, .disk b s3, .row r0 40 [.int .i64 t0, .int .i64 t1]])) := Lib.hid (h); clear h; clear hc))
    | (go_at_call 24; show Calls _ _ _ w8 _; go_must (have hc := own_read H8.out 0 rfl F4.out 0 500 (by decide) (by decide); refine hc.mono ?_; rintro e w9 ⟨rfl, h⟩; have H9 : Hid (Own W w9 ([.disk c s4, .disk b s3, .row r0 40 [.int .i64 t0, .int .i64 t1]])) := Lib.hid (h); clear h; clear hc))
    | (go_at_call 24; show Calls _ _ _ w9 _; go_must (have hc := own_read H9.out 1 rfl F3.out 0 500 (by decide) (by decide); refine hc.mono ?_; rintro e w10 ⟨rfl, h⟩; have H10 : Hid (Own W w10 ([.disk c s4, .disk b s3, .row r0 40 [.int .i64 t0, .int .i64 t1]])) := Lib.hid (h); clear h; clear hc))
    | (go_at_call 21; show Calls _ _ _ w10 _; go_must (have hc := own_write H10.out 1 rfl F3.out (by decide) 0 [99, 104, 97, 110, 103, 101, 100, 32, 97, 103, 97, 105, 110] (by simp); rw [E5.out] at hc; refine hc.mono ?_; rintro e w11 ⟨rfl, h⟩; have H11 : Hid (Own W w11 ([.disk c s4, .disk b s5, .row r0 40 [.int .i64 t0, .int .i64 t1]])) := Lib.hid (h); clear h; clear hc))
    | (go_at_call 24; show Calls _ _ _ w11 _; go_must (have hc := own_read H11.out 0 rfl F4.out 0 500 (by decide) (by decide); refine hc.mono ?_; rintro e w12 ⟨rfl, h⟩; have H12 : Hid (Own W w12 ([.disk c s4, .disk b s5, .row r0 40 [.int .i64 t0, .int .i64 t1]])) := Lib.hid (h); clear h; clear hc))
    | (go_at_call 25; show Calls _ _ _ w12 _; go_must (have hc := own_calls H12.out 0 rfl; rw [E6.out] at hc; refine hc.mono ?_; rintro e w' ⟨rfl, rfl⟩; clear hc)))
  go_ret
  exact ⟨rfl, H12.out.upd⟩
end Go.Proofs.Ytacghhgiilhkfaa
