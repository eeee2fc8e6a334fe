/- JournalCrashes returns true, whatever its arguments. -/
import Derived.Test.YtcbpgmoegfkhnaaJcrun
import Derived.Deep.RegionHeld
namespace Go.Proofs.Ytcbpgmoegfkhnaa
set_option linter.unusedVariables false
open Go.RowKit

def kvc (k : IntKind) (q : List Int) : List Value := q.map (Value.int k)
theorem kvc_get {W w' : World} {A : Option Addr} {n c k : Nat} {kd : IntKind} {q : List Int} (h : Rd W (.slice A n c) 1 n (kvc kd q)) (hk : k < n) (hu : Upd (fun _ => False) W w') : ∃ g o x, A = some ⟨g, o, none⟩ ∧ x ∈ q ∧ w'.cell? ⟨g, o + k, none⟩ = some (.int kd x) := by
  obtain ⟨g, o, rfl⟩ := h.some_ (by omega)
  have hl : q.length = n := by have := h.1; simpa [kvc] using this
  have hc := h.cellAt (j := k) (u := .int kd q[k]) (by simp [kvc, List.getElem?_eq_getElem (show k < q.length by omega)])
  exact ⟨g, o, q[k], rfl, List.getElem_mem _, (hu.cell (World.block_lt_of_cell? _ _ hc) id).trans hc⟩
theorem rjv_rd {W w : World} {m : List Item} (h : Own W w m) (i : Nat) {b : Nat} {L M : List (List UInt8)} {br : Bool} {by_ : Int} {vL vM : Value} (hi : m[i]? = some (.rjV b L M br by_ vL vM)) : Rd w vL 1 L.length (ssv L) := by
  obtain ⟨F, hJ, _⟩ := h.item i hi
  exact (RjAt.l hJ).rd
theorem DOn.mono {s : DSt} {p n m : Nat} {L : List (List UInt8)} (h : DOn s p L n) (hm : n ≤ m) : DOn s p L m := ⟨h.opened, h.alive, h.fit.mono hm⟩
theorem Run.mono {s : DSt} {j : JSt} {mj : RjS} {n m : Nat} (h : Run s j mj n) (hm : n ≤ m) : Run s j mj m := ⟨h.fit.mono hm, by have := h.len; omega, h.small, h.mlen, h.bytes, h.jfit, h.ways⟩

set_option maxHeartbeats 8000000 in
set_option maxRecDepth 20000 in
theorem crashes_true (W : World) (A0 : Option Addr) (n0 c0 : Nat) (l0 : List (List UInt8)) (hl0 : Strs W A0 n0 c0 l0) (A1 : Option Addr) (n1 c1 : Nat) (q1 : List Int) (hr1 : Rd W (.slice A1 n1 c1) 1 n1 (kvc .u8 q1)) (hm1 : n1 ≤ maxLen) (hx1 : ∀ x, x ∈ q1 → (0 : Int) ≤ x ∧ x < 256)
    (A2 : Option Addr) (n2 c2 : Nat) (q2 : List Int) (hq2 : Rd W (.slice A2 n2 c2) 1 n2 (ivs q2)) (hqb2 : ∀ k, (Value.slice A2 n2 c2).ownBlock = some k → k < W.heap.size) (hqn2 : n2 ≤ maxLen) :
    Calls Try.prog 4 #[.slice A0 n0 c0, .slice A1 n1 c1, .slice A2 n2 c2] W (Sane W) := by
  have HA := Lib.hid hl0
  have hm0 := hl0.len
  unfold maxLen at hm0 hm1
  have HB := Lib.hid (And.intro hr1 hx1)
  have HQ2 := Lib.hid (And.intro hq2 hqb2)
  have HM2 := Lib.hid hqn2
  clear hl0 hr1 hx1 hq2 hqb2 hqn2
  have H0 : Hid (Own W W []) := Lib.hid (Own.start W)
  go_enter Try.func4, Try.ntmps4
  go_wp2_with (first
    | (go_at_call 9; go_must (refine (sanity_any _).mono ?_; rintro e w1 ⟨rfl, hu⟩; have H1 := Lib.hid (H0.out.far hu); clear hu))
    | (go_at_call 10; show Calls _ _ _ w1 _; go_must (refine (own_new H1.out).mono ?_; rintro e w2 ⟨b0, rfl, h⟩; have H2 : Hid (Own W w2 ([.disk b0 newSt])) := Lib.hid h; clear h))
    | (go_at_call 11; show Calls _ _ _ w2 _; go_must (refine (on_open H2.out 0 rfl DOn.new (by decide)).mono ?_; rintro e w3 ⟨bj0, Ax, cx, rfl, h⟩; have H3 : Hid (Own W w3 [.row bj0 61 (jS b0 (jOpen 0 [])), .disk b0 (syncedSt newSt)]) := Lib.hid h.drop1; clear h))
    | (go_at_call 12; show Calls _ _ _ w3 _; go_must (refine (rjnew_any H3.out).mono ?_; rintro e w4 ⟨bm, rfl, h⟩; have H4 : Hid (Own W w4 [.row bj0 61 (jS b0 (jOpen 0 [])), .disk b0 (syncedSt newSt), .rjS bm ⟨[], [], false, 0⟩]) := Lib.hid (h.swap.swap2); clear h)))
  go_loopw [8, 9, 11, 13] (fun v8 v9 v11 v wr => ∃ (k b bj : Nat) (s : DSt) (j : JSt) (mj : RjS), k ≤ n0 ∧ k ≤ 20 ∧ v8 = .pointer (some ⟨b, 0, none⟩) ∧ v9 = .pointer (some ⟨bj, 0, none⟩) ∧ v11 = .int .i64 0 ∧ v = .int .i64 k ∧ Own W wr [.row bj 61 (jS b j), .disk b s, .rjS bm mj] ∧ Run s j mj (8 * k + 1) ∧ mj.broken = false) (fun _ _ _ v _ => n0 - (intOf v).toNat)
  case atStart => exact ⟨0, b0, bj0, _, _, _, Nat.zero_le _, Nat.zero_le _, rfl, rfl, rfl, rfl, H4.out, Run.start DOn.new (by simp) (by decide) Small.nil rfl rfl rfl rfl, rfl⟩
  case round =>
    obtain ⟨k, b, bj, s, j, mj, hkn, hk20, rfl, rfl, rfl, rfl, h, hR, hbr⟩ := hrel
    have H := Lib.hid h
    have HR := Lib.hid hR
    have HBR := Lib.hid hbr
    clear h hR hbr
    by_cases hlt : k < n0
    · by_cases hlt2 : k < 20
      · obtain ⟨g, o, x, rfl, hx, _, cW⟩ := HA.out.get hlt (Upd.refl _ W)
        have HX := Lib.hid hx
        have HC := Lib.hid cW
        have cr : wr.cell? ⟨g, o + k, none⟩ = some (.string ⟨x.toArray⟩) := (H.out.upd.cell (World.block_lt_of_cell? _ _ cW) id).trans cW
        have HCB := Lib.hid (World.block_lt_of_cell? _ _ cW)
        clear hx cW
        obtain ⟨r, hr⟩ : ∃ r, r = x.take 200 := ⟨_, rfl⟩
        have hr2 : r.length ≤ 200 := by rw [hr]; exact short_len x
        have HSH : Hid (∀ w, Calls Try.prog 14 #[.string ⟨x.toArray⟩] w fun e w' => e = .returned (.string ⟨r.toArray⟩) ∧ w = w') := Lib.hid fun w => (by rw [hr]; exact short_any w x HX.out)
        have HR2 := Lib.hid hr2
        clear hr hr2
        by_cases hn1 : n1 = 0
        · subst hn1
          obtain ⟨x1, s1, j1, he⟩ : ∃ x1 s1 j1, appendSt s j r = (x1, s1, j1) := ⟨_, _, _, rfl⟩
          have hs := HR.out.step (by omega) HR2.out he
          have h2 := HR.out.step2 HBR.out (by omega) HR2.out he
          have HE := Lib.hid he
          have hs1 := hs.1
          clear he hs
          rcases h2 with ⟨rfl, h2⟩ | ⟨rfl, h2, h3, h4⟩
          · have hs2 : Run s1 j1 (rappSt mj r true).2 (8 * k + 1 + 4) := hs1
            have h5 : (rappSt mj r true).2.broken = false := h2
            have HS := Lib.hid hs2
            have HF := Lib.hid h5
            clear hs1 h2 hs2 h5
            go_wp2_with (first
              | (go_at_call 14; go_must (refine (HSH.out _).mono ?_; rintro e wq ⟨rfl, rfl⟩))
              | (go_at_call 13; show Calls _ _ _ wr _; go_must (have hc := append_any H.out 0 rfl HR.out.fit (by omega) HR.out.jfit r (by have := HR2.out; omega); rw [HE.out] at hc; refine hc.mono ?_; clear hc; rintro e w6 ⟨rfl, h2⟩; have H6 : Hid (Own W w6 [.row bj 61 (jS b j1), .disk b s1, .rjS bm mj]) := Lib.hid h2; have cr6 : w6.cell? ⟨g, o + k, none⟩ = some (.string ⟨x.toArray⟩) := (h2.upd.cell HCB.out id).trans HC.out; clear h2))
              | (go_at_call 15; go_must (refine (on_rapp H6.out 2 rfl HR.out (by omega) r HR2.out true).mono ?_; rintro e w7 ⟨rfl, h2⟩; have H7 : Hid (Own W w7 [.row bj 61 (jS b j1), .disk b s1, .rjS bm (rappSt mj r true).2]) := Lib.hid h2; clear h2))
              | (go_at_call 19; show Calls _ _ _ w7 _; go_must (refine (own_fail H7.out 1 rfl (-1)).mono ?_; rintro e w8 ⟨rfl, h⟩; have H8 : Hid (Own W w8 [.row bj 61 (jS b j1), .disk b (failSt s1 (-1)), .rjS bm (rappSt mj r true).2]) := Lib.hid h; clear h)))
            go_roundw
            case rel => exact ⟨k + 1, b, bj, _, _, _, by omega, by omega, rfl, rfl, rfl, by go_num, H8.out, (HS.out.fail (c := -1) (by decide) (by decide)).mono (by omega), HF.out⟩
            case measure => simp [intOf]; omega
          · have hs2 : Run s1 j1 (rappSt mj r false).2 (8 * k + 1 + 4) := hs1
            have h5 : (rappSt mj r false).2.l = mj.l := h4
            have HS := Lib.hid hs2
            have HF := Lib.hid h5
            have HB2 := Lib.hid (append_broken (s := s1) (j := j1) [109, 111, 114, 101] h2)
            have HM3 := Lib.hid h3
            obtain ⟨pp, L, hd, hmay, hLn, hLS⟩ := hs2.crash q2
            have HD := Lib.hid hd
            have HY := Lib.hid (And.intro hmay (And.intro hLn hLS))
            clear hs1 h2 h3 h4 hs2 h5 hd hmay hLn hLS
            go_wp2_with (first
              | (go_at_call 14; go_must (refine (HSH.out _).mono ?_; rintro e wq ⟨rfl, rfl⟩))
              | (go_at_call 13; show Calls _ _ _ wr _; go_must (have hc := append_any H.out 0 rfl HR.out.fit (by omega) HR.out.jfit r (by have := HR2.out; omega); rw [HE.out] at hc; refine hc.mono ?_; clear hc; rintro e w6 ⟨rfl, h2⟩; have H6 : Hid (Own W w6 [.row bj 61 (jS b j1), .disk b s1, .rjS bm mj]) := Lib.hid h2; have cr6 : w6.cell? ⟨g, o + k, none⟩ = some (.string ⟨x.toArray⟩) := (h2.upd.cell HCB.out id).trans HC.out; clear h2))
              | (go_at_call 15; go_must (refine (on_rapp H6.out 2 rfl HR.out (by omega) r HR2.out false).mono ?_; rintro e w7 ⟨rfl, h2⟩; have H7 : Hid (Own W w7 [.row bj 61 (jS b j1), .disk b s1, .rjS bm (rappSt mj r false).2]) := Lib.hid h2; clear h2)))
            simp only [ld_hide]
            have h := Lib.hid H7.out.drew
            go_region_held3 (fun w' => True) (exact trivial) ((first
              | (go_at_call 13; go_must (have hc := append_any h.out 0 rfl HS.out.fit (by omega) HS.out.jfit [109, 111, 114, 101] (by decide); rw [HB2.out] at hc; refine hc.mono ?_; clear hc; rintro e w8 ⟨rfl, h2⟩; have h : Hid (Own W w8 [.row bj 61 (jS b j1), .disk b s1, .rjS bm (rappSt mj r false).2]) := Lib.hid h2; obtain ⟨A5, c5, d0⟩ := rjs_cell h2 2 rfl; rw [HF.out] at d0; clear h2))
              | (go_at_call 16; go_must (have hc := many_any h.out; rw [HM3.out] at hc; refine hc.mono ?_; clear hc; rintro e wq ⟨rfl, rfl⟩))
              | (show Oper.wp _ ⟨some 93, _, _, _, _, _⟩ _ _ _ _; simp only [← ld_hide])))
            all_goals go_wp2_with (first
              | (go_at_call 17; show Calls _ _ _ w8 _; go_must (refine (own_crash h.out 1 rfl HS.out.fit (by omega) (h.out.rd HQ2.out.1 HQ2.out.2).1 (h.out.rd HQ2.out.1 HQ2.out.2).2 HM2.out).mono ?_; rintro e w9 ⟨c, rfl, h2⟩; have H9 : Hid (Own W w9 [.disk c (crashedSt s1 q2), .rjS bm (rappSt mj r false).2]) := Lib.hid h2.drop1.drop1; clear h2))
              | (go_at_call 11; show Calls _ _ _ w9 _; go_must (refine (on_open H9.out 0 rfl HD.out (by decide)).mono ?_; rintro e w10 ⟨bk, A6, c6, rfl, h2⟩; have H10 : Hid (Own W w10 [.row bk 61 (jS c (jOpen pp L)), .sl (.slice A6 L.length c6) 9 1 (ssv L), .disk c (syncedSt (crashedSt s1 q2)), .rjS bm (rappSt mj r false).2]) := Lib.hid h2; clear h2))
              | (go_at_call 18; show Calls _ _ _ w10 _; go_must (refine (on_opens H10.out 3 1 (by decide) rfl rfl (by have := HY.out.2.1; omega) HY.out.2.2 (by have := HS.out.len; omega) HS.out.mlen HY.out.1).mono ?_; rintro e w11 ⟨rfl, h2⟩; have H11 : Hid (Own W w11 [.row bk 61 (jS c (jOpen pp L)), .disk c (syncedSt (crashedSt s1 q2)), .rjS bm ⟨L, [], false, lensI L⟩]) := Lib.hid h2.drop1; clear h2)))
            all_goals (
              go_roundw
              case rel => exact ⟨k + 1, c, bk, _, _, _, by omega, by omega, rfl, rfl, rfl, by go_num, H11.out, Run.start (n := 8 * k + 8) (HD.out.mono (by omega)) (by have := HY.out.2.1; omega) (by omega) HY.out.2.2 rfl rfl rfl rfl, rfl⟩
              case measure => simp [intOf]; omega)
        · obtain ⟨i1, hi1⟩ : ∃ i1 : Nat, k % n1 = i1 := ⟨_, rfl⟩
          have hi2 : i1 < n1 := by rw [← hi1]; exact Nat.mod_lt _ (by omega)
          have hi3 : (k : Int).tmod n1 = i1 := by rw [Int.tmod_eq_emod_of_nonneg (by omega)]; rw [← hi1]; simp
          have hi4 : wrap64 (i1 : Int) = i1 := by unfold wrap64; omega
          obtain ⟨g1, o1, y, rfl, hy, cy⟩ := kvc_get HB.out.1 hi2 H.out.upd
          obtain ⟨hy0, hy1⟩ := HB.out.2 y hy
          obtain ⟨p, hp⟩ : ∃ p : Nat, y % 9 = p := ⟨(y % 9).toNat, by omega⟩
          have hp1 : p < 9 := by omega
          have hp2 : y.tmod 9 = p := by rw [Int.tmod_eq_emod_of_nonneg hy0]; exact hp
          have hp3 : IntKind.u8.wrap (p : Int) = p := by apply IntWalk.u8_in <;> omega
          have hn2 : (0 : Int) < n1 := by omega
          have hn3 : (i1 : Int) < n1 := by omega
          clear hi1 hy hp hy0 hy1
          have HRF := Lib.hid (HR.out.fail (c := p) (by omega) (by omega))
          obtain ⟨x1, s1, j1, he⟩ : ∃ x1 s1 j1, appendSt (failSt s p) j r = (x1, s1, j1) := ⟨_, _, _, rfl⟩
          have hs := HRF.out.step (by omega) HR2.out he
          have h2 := HRF.out.step2 HBR.out (by omega) HR2.out he
          have HE := Lib.hid he
          have hs1 := hs.1
          clear he hs
          rcases h2 with ⟨rfl, h2⟩ | ⟨rfl, h2, h3, h4⟩
          · have hs2 : Run s1 j1 (rappSt mj r true).2 (8 * k + 1 + 1 + 4) := hs1
            have h5 : (rappSt mj r true).2.broken = false := h2
            have HS := Lib.hid hs2
            have HF := Lib.hid h5
            clear hs1 h2 hs2 h5
            go_wp2_with (first
              | (go_at_call 19; show Calls _ _ _ wr _; go_must (refine (own_fail H.out 1 rfl p).mono ?_; rintro e w5 ⟨rfl, h⟩; have H5 : Hid (Own W w5 [.row bj 61 (jS b j), .disk b (failSt s p), .rjS bm mj]) := Lib.hid h; have cr5 : w5.cell? ⟨g, o + k, none⟩ = some (.string ⟨x.toArray⟩) := (h.upd.cell HCB.out id).trans HC.out; clear h))
              | (go_at_call 14; go_must (refine (HSH.out _).mono ?_; rintro e wq ⟨rfl, rfl⟩))
              | (go_at_call 13; show Calls _ _ _ w5 _; go_must (have hc := append_any H5.out 0 rfl HRF.out.fit (by omega) HRF.out.jfit r (by have := HR2.out; omega); rw [HE.out] at hc; refine hc.mono ?_; clear hc; rintro e w6 ⟨rfl, h2⟩; have H6 : Hid (Own W w6 [.row bj 61 (jS b j1), .disk b s1, .rjS bm mj]) := Lib.hid h2; have cr6 : w6.cell? ⟨g, o + k, none⟩ = some (.string ⟨x.toArray⟩) := (h2.upd.cell HCB.out id).trans HC.out; clear h2))
              | (go_at_call 15; go_must (refine (on_rapp H6.out 2 rfl HRF.out (by omega) r HR2.out true).mono ?_; rintro e w7 ⟨rfl, h2⟩; have H7 : Hid (Own W w7 [.row bj 61 (jS b j1), .disk b s1, .rjS bm (rappSt mj r true).2]) := Lib.hid h2; clear h2))
              | (go_at_call 19; show Calls _ _ _ w7 _; go_must (refine (own_fail H7.out 1 rfl (-1)).mono ?_; rintro e w8 ⟨rfl, h⟩; have H8 : Hid (Own W w8 [.row bj 61 (jS b j1), .disk b (failSt s1 (-1)), .rjS bm (rappSt mj r true).2]) := Lib.hid h; clear h)))
            go_roundw
            case rel => exact ⟨k + 1, b, bj, _, _, _, by omega, by omega, rfl, rfl, rfl, by go_num, H8.out, (HS.out.fail (c := -1) (by decide) (by decide)).mono (by omega), HF.out⟩
            case measure => simp [intOf]; omega
          · have hs2 : Run s1 j1 (rappSt mj r false).2 (8 * k + 1 + 1 + 4) := hs1
            have h5 : (rappSt mj r false).2.l = mj.l := h4
            have HS := Lib.hid hs2
            have HF := Lib.hid h5
            have HB2 := Lib.hid (append_broken (s := s1) (j := j1) [109, 111, 114, 101] h2)
            have HM3 := Lib.hid h3
            obtain ⟨pp, L, hd, hmay, hLn, hLS⟩ := hs2.crash q2
            have HD := Lib.hid hd
            have HY := Lib.hid (And.intro hmay (And.intro hLn hLS))
            clear hs1 h2 h3 h4 hs2 h5 hd hmay hLn hLS
            go_wp2_with (first
              | (go_at_call 19; show Calls _ _ _ wr _; go_must (refine (own_fail H.out 1 rfl p).mono ?_; rintro e w5 ⟨rfl, h⟩; have H5 : Hid (Own W w5 [.row bj 61 (jS b j), .disk b (failSt s p), .rjS bm mj]) := Lib.hid h; have cr5 : w5.cell? ⟨g, o + k, none⟩ = some (.string ⟨x.toArray⟩) := (h.upd.cell HCB.out id).trans HC.out; clear h))
              | (go_at_call 14; go_must (refine (HSH.out _).mono ?_; rintro e wq ⟨rfl, rfl⟩))
              | (go_at_call 13; show Calls _ _ _ w5 _; go_must (have hc := append_any H5.out 0 rfl HRF.out.fit (by omega) HRF.out.jfit r (by have := HR2.out; omega); rw [HE.out] at hc; refine hc.mono ?_; clear hc; rintro e w6 ⟨rfl, h2⟩; have H6 : Hid (Own W w6 [.row bj 61 (jS b j1), .disk b s1, .rjS bm mj]) := Lib.hid h2; have cr6 : w6.cell? ⟨g, o + k, none⟩ = some (.string ⟨x.toArray⟩) := (h2.upd.cell HCB.out id).trans HC.out; clear h2))
              | (go_at_call 15; go_must (refine (on_rapp H6.out 2 rfl HRF.out (by omega) r HR2.out false).mono ?_; rintro e w7 ⟨rfl, h2⟩; have H7 : Hid (Own W w7 [.row bj 61 (jS b j1), .disk b s1, .rjS bm (rappSt mj r false).2]) := Lib.hid h2; clear h2)))
            simp only [ld_hide]
            have h := Lib.hid H7.out.drew
            go_region_held3 (fun w' => True) (exact trivial) ((first
              | (go_at_call 13; go_must (have hc := append_any h.out 0 rfl HS.out.fit (by omega) HS.out.jfit [109, 111, 114, 101] (by decide); rw [HB2.out] at hc; refine hc.mono ?_; clear hc; rintro e w8 ⟨rfl, h2⟩; have h : Hid (Own W w8 [.row bj 61 (jS b j1), .disk b s1, .rjS bm (rappSt mj r false).2]) := Lib.hid h2; obtain ⟨A5, c5, d0⟩ := rjs_cell h2 2 rfl; rw [HF.out] at d0; clear h2))
              | (go_at_call 16; go_must (have hc := many_any h.out; rw [HM3.out] at hc; refine hc.mono ?_; clear hc; rintro e wq ⟨rfl, rfl⟩))
              | (show Oper.wp _ ⟨some 93, _, _, _, _, _⟩ _ _ _ _; simp only [← ld_hide])))
            all_goals go_wp2_with (first
              | (go_at_call 17; show Calls _ _ _ w8 _; go_must (refine (own_crash h.out 1 rfl HS.out.fit (by omega) (h.out.rd HQ2.out.1 HQ2.out.2).1 (h.out.rd HQ2.out.1 HQ2.out.2).2 HM2.out).mono ?_; rintro e w9 ⟨c, rfl, h2⟩; have H9 : Hid (Own W w9 [.disk c (crashedSt s1 q2), .rjS bm (rappSt mj r false).2]) := Lib.hid h2.drop1.drop1; clear h2))
              | (go_at_call 11; show Calls _ _ _ w9 _; go_must (refine (on_open H9.out 0 rfl HD.out (by decide)).mono ?_; rintro e w10 ⟨bk, A6, c6, rfl, h2⟩; have H10 : Hid (Own W w10 [.row bk 61 (jS c (jOpen pp L)), .sl (.slice A6 L.length c6) 9 1 (ssv L), .disk c (syncedSt (crashedSt s1 q2)), .rjS bm (rappSt mj r false).2]) := Lib.hid h2; clear h2))
              | (go_at_call 18; show Calls _ _ _ w10 _; go_must (refine (on_opens H10.out 3 1 (by decide) rfl rfl (by have := HY.out.2.1; omega) HY.out.2.2 (by have := HS.out.len; omega) HS.out.mlen HY.out.1).mono ?_; rintro e w11 ⟨rfl, h2⟩; have H11 : Hid (Own W w11 [.row bk 61 (jS c (jOpen pp L)), .disk c (syncedSt (crashedSt s1 q2)), .rjS bm ⟨L, [], false, lensI L⟩]) := Lib.hid h2.drop1; clear h2)))
            all_goals (
              go_roundw
              case rel => exact ⟨k + 1, c, bk, _, _, _, by omega, by omega, rfl, rfl, rfl, by go_num, H11.out, Run.start (n := 8 * k + 8) (HD.out.mono (by omega)) (by have := HY.out.2.1; omega) (by omega) HY.out.2.2 rfl rfl rfl rfl, rfl⟩
              case measure => simp [intOf]; omega)
      · obtain rfl : k = 20 := by omega
        obtain ⟨a1, a2, a3, a5⟩ := HR.out.whole HBR.out
        have hd : DOn (crashedSt s q2) j.p mj.l 0 := ⟨by rw [crash_calm a1]; exact a2, rfl, HR.out.fit.crashed q2⟩
        have HD := Lib.hid hd
        clear a1 a2 a3 a5 hd
        obtain ⟨A5, c5, vM, h3⟩ := rjv_of H.out 2 rfl
        have HV : Hid (Own W wr [.row bj 61 (jS b j), .disk b s, .rjV bm mj.l mj.m mj.broken mj.bytes (.slice A5 mj.l.length c5) vM]) := Lib.hid h3
        clear h3
        go_wp2_with (first
          | (go_at_call 17; show Calls _ _ _ wr _; go_must (refine (own_crash HV.out 1 rfl HR.out.fit (by omega) (HV.out.rd HQ2.out.1 HQ2.out.2).1 (HV.out.rd HQ2.out.1 HQ2.out.2).2 HM2.out).mono ?_; rintro e w9 ⟨c, rfl, h2⟩; have H9 : Hid (Own W w9 [.disk c (crashedSt s q2), .rjV bm mj.l mj.m mj.broken mj.bytes (.slice A5 mj.l.length c5) vM]) := Lib.hid h2.drop1.drop1; clear h2))
          | (go_at_call 11; show Calls _ _ _ w9 _; go_must (refine (on_open H9.out 0 rfl HD.out (by decide)).mono ?_; rintro e w10 ⟨bk, A6, c6, rfl, h2⟩; have H10 : Hid (Own W w10 [.sl (.slice A6 mj.l.length c6) 9 1 (ssv mj.l), .rjV bm mj.l mj.m mj.broken mj.bytes (.slice A5 mj.l.length c5) vM]) := Lib.hid h2.tail.drop1; have d0 := rjv_cell H10.out 1 rfl; clear h2))
          | (go_at_call 20; go_must (refine (same_first (sl_rd H10.out 0 rfl) (rjv_rd H10.out 1 rfl) rfl (Nat.le_refl _) List.take_length (by have := HR.out.len; unfold maxLen; omega)).mono ?_; rintro e w11 ⟨rfl, hu⟩; have H11 := Lib.hid (H10.out.far hu); clear hu)))
        go_ret
        exact ⟨rfl, H11.out.upd⟩
    · obtain rfl : k = n0 := by omega
      obtain ⟨a1, a2, a3, a5⟩ := HR.out.whole HBR.out
      have hd : DOn (crashedSt s q2) j.p mj.l 0 := ⟨by rw [crash_calm a1]; exact a2, rfl, HR.out.fit.crashed q2⟩
      have HD := Lib.hid hd
      clear a1 a2 a3 a5 hd
      obtain ⟨A5, c5, vM, h3⟩ := rjv_of H.out 2 rfl
      have HV : Hid (Own W wr [.row bj 61 (jS b j), .disk b s, .rjV bm mj.l mj.m mj.broken mj.bytes (.slice A5 mj.l.length c5) vM]) := Lib.hid h3
      clear h3
      go_wp2_with (first
        | (go_at_call 17; show Calls _ _ _ wr _; go_must (refine (own_crash HV.out 1 rfl HR.out.fit (by omega) (HV.out.rd HQ2.out.1 HQ2.out.2).1 (HV.out.rd HQ2.out.1 HQ2.out.2).2 HM2.out).mono ?_; rintro e w9 ⟨c, rfl, h2⟩; have H9 : Hid (Own W w9 [.disk c (crashedSt s q2), .rjV bm mj.l mj.m mj.broken mj.bytes (.slice A5 mj.l.length c5) vM]) := Lib.hid h2.drop1.drop1; clear h2))
        | (go_at_call 11; show Calls _ _ _ w9 _; go_must (refine (on_open H9.out 0 rfl HD.out (by decide)).mono ?_; rintro e w10 ⟨bk, A6, c6, rfl, h2⟩; have H10 : Hid (Own W w10 [.sl (.slice A6 mj.l.length c6) 9 1 (ssv mj.l), .rjV bm mj.l mj.m mj.broken mj.bytes (.slice A5 mj.l.length c5) vM]) := Lib.hid h2.tail.drop1; have d0 := rjv_cell H10.out 1 rfl; clear h2))
        | (go_at_call 20; go_must (refine (same_first (sl_rd H10.out 0 rfl) (rjv_rd H10.out 1 rfl) rfl (Nat.le_refl _) List.take_length (by have := HR.out.len; unfold maxLen; omega)).mono ?_; rintro e w11 ⟨rfl, hu⟩; have H11 := Lib.hid (H10.out.far hu); clear hu)))
      go_ret
      exact ⟨rfl, H11.out.upd⟩
end Go.Proofs.Ytcbpgmoegfkhnaa
