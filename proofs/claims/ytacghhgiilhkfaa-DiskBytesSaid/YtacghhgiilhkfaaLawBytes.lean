/- DiskBytes returns true, whatever its arguments. -/
import Derived.Test.YtacghhgiilhkfaaLawKit2
import Derived.Test.YtacghhgiilhkfaaPlain1
import Derived.Deep.QuietTactic
import Derived.BigQuiet
namespace Go.Proofs.Ytacghhgiilhkfaa
set_option linter.unusedVariables false
open Go.RowKit

set_option maxRecDepth 20000 in
set_option maxHeartbeats 4000000 in
theorem bytes_true (W : World) (l : List UInt8) (hl : l.length ≤ maxLen) (t0 t1 : Int) (h0 : in64 t0) (h1 : in64 t1)
    (Aq : Option Addr) (nq cq : Nat) (qs : List Int) (hq : Rd W (.slice Aq nq cq) 1 nq (ivs qs)) (hqb : ∀ k, (Value.slice Aq nq cq).ownBlock = some k → k < W.heap.size) (hqn : nq ≤ maxLen) :
    Calls Try.prog 4 #[.string ⟨l.toArray⟩, .agg #[.int .i64 t0, .int .i64 t1], .slice Aq nq cq] W (Sane W) := by
  obtain ⟨h01, h02⟩ := h0
  obtain ⟨h11, h12⟩ := h1
  unfold maxLen at hl
  obtain ⟨r0, hr0⟩ : ∃ r0, W.heap.size = r0 := ⟨_, rfl⟩
  have H0 : Hid (Own W (W.alloc (.cells #[.int .i64 t0, .int .i64 t1] 40)) [.row r0 40 [.int .i64 t0, .int .i64 t1]]) := by subst hr0; exact Lib.hid ((Own.start W).newRow _ _)
  obtain ⟨o1, ho1, ho1b⟩ : ∃ m : Nat, modI t0 250 = m ∧ (m : Int) < 250 := modI_nat t0 250 (by decide)
  obtain ⟨m1, hm1, hm1b⟩ : ∃ m : Nat, modI t1 200 = m ∧ (m : Int) < 200 := modI_nat t1 200 (by decide)
  obtain ⟨n1, hn1⟩ : ∃ n1 : Nat, 1 + (m1 : Int) = n1 := ⟨1 + m1, by omega⟩
  have hn1b : (n1 : Int) ≤ 200 := by omega
  have HM := Lib.hid (And.intro ho1 hm1)
  obtain ⟨q, hqq, hq200, hql⟩ := min_nat l.length 200
  have HQ := Lib.hid hqq
  obtain ⟨a, ha⟩ : ∃ a, a = l.take q := ⟨_, rfl⟩
  have hal : a.length ≤ 200 := by rw [ha, List.length_take]; omega
  obtain ⟨s1, hs1⟩ : ∃ s, s = wroteSt newSt 0 a := ⟨_, rfl⟩
  obtain ⟨s2, hs2⟩ : ∃ s, s = syncedSt s1 := ⟨_, rfl⟩
  obtain ⟨s3, hs3⟩ : ∃ s, s = wroteSt s2 o1 (List.replicate n1 238) := ⟨_, rfl⟩
  obtain ⟨cs, hcs⟩ : ∃ s, s = crashedSt s3 qs := ⟨_, rfl⟩
  have E1 : Hid (writeSt newSt 0 a = (0, s1)) := Lib.hid (by rw [hs1]; exact writeSt_ok 0 (by omega) rfl)
  have E2 : Hid (syncSt s1 = (0, s2)) := Lib.hid (by rw [hs2]; exact syncSt_ok (by rw [hs1]; rfl))
  have E3 : Hid (writeSt s2 o1 (List.replicate n1 238) = (0, s3)) := Lib.hid (by rw [hs3]; exact writeSt_ok o1 (by rw [List.length_replicate]; omega) (by rw [hs2, hs1]; rfl))
  have F1 : Hid (Fit 1 s1) := Lib.hid (by rw [hs1]; exact Fit.new.wrote (by omega) (by omega))
  have F2 : Hid (Fit 2 s2) := Lib.hid (by rw [hs2]; exact F1.out.synced)
  have F3 : Hid (Fit 3 s3) := Lib.hid (by rw [hs3]; exact F2.out.wrote (by rw [List.length_replicate]; omega) (by rw [List.length_replicate]; omega))
  have F4 : Hid (Fit 0 cs) := Lib.hid (by rw [hcs]; exact F3.out.crashed qs)
  have HC := Lib.hid hcs
  have ER : Hid (readL cs.now 0 cs.now.length = cs.now) := Lib.hid (readL_all _)
  have hgood : GoodB a o1 n1 cs.now := by
    have h := good_crash qs a o1 n1
    have he : cs.now = crashL qs 0 (pcsL o1 (List.replicate n1 238)) a := by
      rw [hcs, hs3, hs2, hs1]
      show crashL qs 0 ([] ++ pcsL o1 (List.replicate n1 238)) (putL [] 0 a) = _
      rw [putL_nil, List.nil_append]
    rw [he]; exact h
  obtain ⟨mx, hmx, hN2⟩ : ∃ mx : Int, (if (a.length : Int) < (o1 : Int) + n1 then (o1 : Int) + n1 else a.length) = mx ∧ (cs.now.length : Int) ≤ mx := ⟨_, rfl, by have := hgood.2.1; split <;> omega⟩
  have hN1 : (a.length : Int) ≤ cs.now.length := by have := hgood.1; omega
  have HG := Lib.hid hgood.2.2
  have HR := Lib.hid (And.intro hq hqb)
  have hcut : (ByteArray.mk l.toArray).extract 0 q = ⟨a.toArray⟩ := by rw [extract_mid, ha]; simp
  have hw1 := IntWalk.i64_in ((o1 : Int) + n1) (by omega)
  have hcl : (cs.now.length : Int) ≤ 16777216 := by have := F4.out.now; omega
  clear hs1 hs2 hs3 hcs ho1 hm1 hqq hq hqb ha hgood
  go_enter Try.func4, Try.ntmps4
  go_wp2_with (first
    | (go_at_call 11; go_must (refine (sanity_any _).mono ?_; rintro e w1 ⟨rfl, hu⟩; have H1 := Lib.hid (H0.out.far hu); clear hu))
    | (go_at_call 12; show Calls _ _ _ w1 _; go_must (refine (own_new H1.out).mono ?_; rintro e w2 ⟨b, rfl, h⟩; have H2 : Hid (Own W w2 ([.disk b newSt, .row r0 40 [.int .i64 t0, .int .i64 t1]])) := Lib.hid (h); clear h; have c0 : w2.cell? ⟨r0, 0, none⟩ = some (.int .i64 t0) := (H2.out.row 1 rfl).cell 0; have c1 : w2.cell? ⟨r0, 1, none⟩ = some (.int .i64 t1) := (H2.out.row 1 rfl).cell 1))
    | (show wpList _ _ _ (⟨some 28, _, _, _, _, _⟩ :: _) _ _; go_must (refine wpList_min rfl (.tmp 27) (.const (.int .i64 200)) _ rfl (kk := .i64) (kk' := .i64) (p := l.length) (r := 200) rfl rfl HQ.out ?_))
    | (go_at_call 14; go_must (refine (mod_any _ _ _ (by decide) (by decide) (by omega) (by omega)).mono ?_; rintro e w' ⟨rfl, rfl⟩; first | rw [HM.out.1] | rw [HM.out.2]))
    | (go_at_call 20; go_must (refine (repeated_b _ n1 (by omega)).mono ?_; rintro e w3 ⟨rfl, hu⟩; have H3 := Lib.hid (H2.out.far hu); clear hu))
    | (go_at_call 21; show Calls _ _ _ w3 _; go_must (have hc := own_write H3.out 0 rfl Fit.new (by decide) 0 a (by omega); rw [E1.out] at hc; refine hc.mono ?_; rintro e w4 ⟨rfl, h⟩; have H4 : Hid (Own W w4 ([.disk b s1, .row r0 40 [.int .i64 t0, .int .i64 t1]])) := Lib.hid (h); clear h; clear hc))
    | (go_at_call 22; show Calls _ _ _ w4 _; go_must (have hc := own_sync H4.out 0 rfl F1.out (by decide); rw [E2.out] at hc; refine hc.mono ?_; rintro e w5 ⟨rfl, h⟩; have H5 : Hid (Own W w5 ([.disk b s2, .row r0 40 [.int .i64 t0, .int .i64 t1]])) := Lib.hid (h); clear h; clear hc))
    | (go_at_call 21; show Calls _ _ _ w5 _; go_must ((try rw [← List.toArray_replicate]); have hc := own_write H5.out 0 rfl F2.out (by decide) o1 (List.replicate n1 238) (by rw [List.length_replicate]; omega); rw [E3.out] at hc; refine hc.mono ?_; rintro e w6 ⟨rfl, h⟩; have H6 : Hid (Own W w6 ([.disk b s3, .row r0 40 [.int .i64 t0, .int .i64 t1]])) := Lib.hid h; clear h hc))
    | (go_at_call 16; show Calls _ _ _ w6 _; go_must (refine (own_crash H6.out 0 rfl F3.out (by decide) (H6.out.rd HR.out.1 HR.out.2).1 (H6.out.rd HR.out.1 HR.out.2).2 hqn).mono ?_; rintro e w7 ⟨c, rfl, h⟩; have H7 : Hid (Own W w7 ([.disk c cs, .disk b s3, .row r0 40 [.int .i64 t0, .int .i64 t1]])) := Lib.hid (by rw [← HC.out] at h; exact h); clear h))
    | (go_at_call 23; show Calls _ _ _ w7 _; go_must (refine (own_size H7.out 0 rfl).mono ?_; rintro e w' ⟨rfl, rfl⟩))
    | (go_at_call 24; show Calls _ _ _ w7 _; go_must (have hc := own_read H7.out 0 rfl F4.out 0 cs.now.length (by decide) (by omega); rw [ER.out] at hc; refine hc.mono ?_; rintro e w8 ⟨rfl, h⟩; have H8 : Hid (Own W w8 ([.disk c cs, .disk b s3, .row r0 40 [.int .i64 t0, .int .i64 t1]])) := Lib.hid (h); clear h; clear hc))
    | (go_at_call 23; show Calls _ _ _ w8 _; go_must (refine (own_size H8.out 0 rfl).mono ?_; rintro e w' ⟨rfl, rfl⟩)))
  go_loopw [17] (fun v wr => ∃ k : Nat, k ≤ cs.now.length ∧ v = .int .i64 k ∧ Upd (fun _ => False) W wr) (fun v _ => cs.now.length - (intOf v).toNat)
  case atStart => exact ⟨0, Nat.zero_le _, rfl, H8.out.upd⟩
  case round =>
    obtain ⟨k, hk, rfl, hU⟩ := hrel
    have HU := Lib.hid hU
    clear hU
    by_cases hlt : k < cs.now.length
    · obtain ⟨x, hx⟩ : ∃ x, cs.now[k]? = some x := ⟨_, List.getElem?_eq_getElem hlt⟩
      have GX := Lib.hid (HG.out k x hx)
      have hxk : ∀ h : k < (ByteArray.mk cs.now.toArray).size, (ByteArray.mk cs.now.toArray)[k]'h = x := by
        intro h
        have h2 : cs.now.toArray[k]'h = x := by
          rw [List.getElem_toArray]
          rw [List.getElem?_eq_getElem hlt] at hx
          exact Option.some.inj hx
        exact h2
      clear hx
      rcases GX.out with hA | ⟨c2, c3, rfl⟩ | ⟨c1, rfl⟩
      · have c1 : k < a.length := by
          rcases Nat.lt_or_ge k a.length with h | h
          · exact h
          · rw [List.getElem?_eq_none h] at hA; cases hA
        have hyk : ∀ h : k < (ByteArray.mk a.toArray).size, (ByteArray.mk a.toArray)[k]'h = x := by
          intro h
          have h2 : a.toArray[k]'h = x := by
            rw [List.getElem_toArray]
            rw [List.getElem?_eq_getElem c1] at hA
            exact Option.some.inj hA
          exact h2
        clear hA
        go_wp2_with fail
        go_quiet (fail)
        go_wp2_with fail
        all_goals (
          go_roundw
          case rel => exact ⟨k + 1, by omega, by go_num, HU.out.drewN _⟩
          case measure => simp [intOf]; omega)
      · by_cases c1 : k < a.length
        · obtain ⟨y, hy⟩ : ∃ y, a[k]? = some y := ⟨_, List.getElem?_eq_getElem c1⟩
          have hyk : ∀ h : k < (ByteArray.mk a.toArray).size, (ByteArray.mk a.toArray)[k]'h = y := by
            intro h
            have h2 : a.toArray[k]'h = y := by
              rw [List.getElem_toArray]
              rw [List.getElem?_eq_getElem c1] at hy
              exact Option.some.inj hy
            exact h2
          clear hy
          go_wp2_with fail
          go_quiet (fail)
          go_wp2_with fail
          all_goals (
            go_roundw
            case rel => exact ⟨k + 1, by omega, by go_num, HU.out.drewN _⟩
            case measure => simp [intOf]; omega)
        · have hd : decide ((k : Int) < (a.length : Int)) = false := by simp; omega
          go_wp2_with fail
          go_quiet (fail)
          go_wp2_with fail
          all_goals (
            go_roundw
            case rel => exact ⟨k + 1, by omega, by go_num, HU.out.drewN _⟩
            case measure => simp [intOf]; omega)
      · have c2 : ¬ k < a.length := by omega
        clear c1
        have hd : decide ((k : Int) < (a.length : Int)) = false := by simp; omega
        go_wp2_with fail
        go_quiet (fail)
        go_wp2_with fail
        all_goals (
          go_roundw
          case rel => exact ⟨k + 1, by omega, by go_num, HU.out.drewN _⟩
          case measure => simp [intOf]; omega)
    · obtain rfl : k = cs.now.length := by omega
      go_wp2_with fail
      go_ret
      exact ⟨rfl, HU.out⟩
end Go.Proofs.Ytacghhgiilhkfaa
