/- the reference's wishes (printed by gen-t36.py). -/
import Derived.Test.YtaejnhgnacgheaaT35
import Derived.Deep.CutBlock
namespace Go.Proofs.Ytaejnhgnacgheaa
set_option linter.unusedVariables false
set_option linter.unusedSimpArgs false
open Go.RowKit

theorem dcells_row {w : World} {b : Nat} {d : DrawL} {vt vp vq vb : Value} (h : Row w b 30 (dcells d vt vp vq vb)) : True := trivial
set_option maxHeartbeats 4000000 in
set_option maxRecDepth 20000 in
theorem rwishes_any (w : World) (d : DrawL) (vt vp vq vb : Value) (h : DrawIn w d vt vp vq vb) (e : EntL) (xp xw xg : Value) (he : EntIn w e xp xw xg) : Calls Try.prog 45 #[dval d vt vp vq vb, evalE e xp xw xg] w (Gives w (.int .i64 (wishesL d e))) := by
  obtain ⟨A, c, rfl, hA⟩ := h.p
  obtain ⟨C, k, rfl, hC⟩ := he.wi
  have hpl := h.ok.places
  have hwl := he.ok.wishes
  obtain ⟨n, hn⟩ : ∃ n, n = d.places.length := ⟨_, rfl⟩
  obtain ⟨m, hm⟩ : ∃ m, m = e.wishes.length := ⟨_, rfl⟩
  rw [← hn, ← hm]
  rw [← hn] at hpl
  rw [← hm] at hwl
  have HA := Lib.hid hA
  have HC := Lib.hid hC
  have HN := Lib.hid hn
  have HM := Lib.hid hm
  have HWOK := Lib.hid he.ok.wish
  have HW := Lib.hid he.wi
  obtain ⟨q1, hq1⟩ : ∃ b, b = inR e.cls 0 d.cls := ⟨_, rfl⟩
  obtain ⟨q2, hq2⟩ : ∃ b, b = inR e.fam 0 1000000000 := ⟨_, rfl⟩
  obtain ⟨ba, hba⟩ : ∃ b, b = e.wishes.all (knownL d) := ⟨_, rfl⟩
  obtain ⟨br, hbr⟩ : ∃ b, b = rep e.wishes := ⟨_, rfl⟩
  have HR : Hid (wishesL d e = firstL [unl (q1 && q2) 15, unl (decide ((m : Int) ≤ n)) 2, unl ba 13, unl (!br) 33]) := Lib.hid (by unfold wishesL; rw [← hq1, ← hq2, ← hn, ← hm, ← hba, ← hbr])
  have HQ1 := Lib.hid hq1
  have HQ2 := Lib.hid hq2
  have HBA := Lib.hid hba
  have HBR := Lib.hid hbr
  obtain ⟨r, hr⟩ : ∃ r, r = wishesL d e := ⟨_, rfl⟩
  rw [← hr] at HR ⊢
  have hU : Kp w ((w.alloc (.cells (dcells d vt (.slice A n c) vq vb).toArray 30)).alloc (.cells (ecells e xp (.slice C m k) xg).toArray 46)) := ((Upd.refl _ w).alloc _).alloc _
  have hrow1 : Row ((w.alloc (.cells (dcells d vt (.slice A n c) vq vb).toArray 30)).alloc (.cells (ecells e xp (.slice C m k) xg).toArray 46)) w.heap.size 30 (dcells d vt (.slice A n c) vq vb) := (Row.new w _ _).upd ((Upd.refl (fun _ => False) _).alloc _) id
  have hrow2 : Row ((w.alloc (.cells (dcells d vt (.slice A n c) vq vb).toArray 30)).alloc (.cells (ecells e xp (.slice C m k) xg).toArray 46)) (w.heap.size + 1) 46 (ecells e xp (.slice C m k) xg) := Row.new_at _ _ _ _ (by simp)
  obtain ⟨w1, hw1⟩ : ∃ w1, w1 = ((w.alloc (.cells (dcells d vt (.slice A n c) vq vb).toArray 30)).alloc (.cells (ecells e xp (.slice C m k) xg).toArray 46)) := ⟨_, rfl⟩
  rw [← hw1] at hU hrow1 hrow2
  have U1 := Lib.hid hU
  have D1 := Lib.hid hrow1
  have E1 := Lib.hid hrow2
  have CELLS : Hid (∀ W, Kp w1 W → W.cell? ⟨w.heap.size, 8, none⟩ = some (.slice A n c) ∧ W.cell? ⟨w.heap.size + 1, 4, none⟩ = some (.slice C m k)) := Lib.hid (fun W hW => ⟨(hrow1.upd hW id).cell 8, (hrow2.upd hW id).cell 4⟩)
  clear h he hA hC hn hm hq1 hq2 hba hbr hr hU hrow1 hrow2
  simp only [dcells, ecells] at hw1
  go_enter Try.func45, Try.ntmps45
  go_upto_region 1 with fail
  rw [← hw1]
  clear hw1
  have e1 : w1.cell? ⟨w.heap.size + 1, 1, none⟩ = some (.int .i64 e.cls) := E1.out.cell 1
  have e2 : w1.cell? ⟨w.heap.size + 1, 2, none⟩ = some (.int .i64 e.fam) := E1.out.cell 2
  have d9 : w1.cell? ⟨w.heap.size, 9, none⟩ = some (.int .i64 d.cls) := D1.out.cell 9
  have HI1 : Hid (∀ W, Calls Try.prog 31 #[.int .i64 e.cls, .int .i64 0, .int .i64 d.cls] W fun en w' => en = .returned (.bool q1) ∧ W = w') := Lib.hid (fun W => by rw [HQ1.out]; exact rwithin_any W _ _ _)
  have HI2 : Hid (∀ W, Calls Try.prog 31 #[.int .i64 e.fam, .int .i64 0, .int .i64 1000000000] W fun en w' => en = .returned (.bool q2) ∧ W = w') := Lib.hid (fun W => by rw [HQ2.out]; exact rwithin_any W _ _ _)
  cases q1 with
  | false =>
    go_wp2_with (go_at_call 31; refine (HI1.out _).mono ?_; rintro en wa ⟨rfl, rfl⟩)
    go_ret
    exact ⟨by rw [HR.out]; rfl, U1.out⟩
  | true =>
    cases q2 with
    | false =>
      go_wp2_with (first | (go_at_call_of 31 d.cls; refine (HI1.out _).mono ?_; rintro en wa ⟨rfl, rfl⟩) | (go_at_call 31; refine (HI2.out _).mono ?_; rintro en wa ⟨rfl, rfl⟩))
      go_ret
      exact ⟨by rw [HR.out]; rfl, U1.out⟩
    | true =>
      have d8 := (CELLS.out w1 (Upd.refl _ _)).1
      have e4 := (CELLS.out w1 (Upd.refl _ _)).2
      by_cases hmn : n < m
      · have hmni : (n : Int) < m := by omega
        go_wp2_with (first | (go_at_call_of 31 d.cls; refine (HI1.out _).mono ?_; rintro en wa ⟨rfl, rfl⟩) | (go_at_call 31; refine (HI2.out _).mono ?_; rintro en wa ⟨rfl, rfl⟩))
        go_ret
        exact ⟨by rw [HR.out, decide_eq_false (show ¬ ((m : Int) ≤ n) by omega)]; rfl, U1.out⟩
      · have hmni : ¬ (n : Int) < m := by omega
        replace HR := Lib.hid (HR.out.trans (by rw [decide_eq_true (show ((m : Int) ≤ n) by omega)]))
        go_upto_region 5 with (first | (go_at_call_of 31 d.cls; refine (HI1.out _).mono ?_; rintro en wa ⟨rfl, rfl⟩) | (go_at_call 31; refine (HI2.out _).mono ?_; rintro en wa ⟨rfl, rfl⟩))
        clear e1 e2 d9 d8 e4
        go_wp2_with (fail)
        go_loopw [5] (fun v wr => ∃ i : Nat, v = .int .i64 i ∧ i ≤ m ∧ Kp w1 wr ∧ ∀ j, ∀ hj : j < e.wishes.length, j < i → knownL d e.wishes[j] = true) (fun v _ => m - (intOf v).toNat)
        case atStart => exact ⟨0, rfl, Nat.zero_le _, Upd.refl _ _, fun j hj h => by omega⟩
        case round =>
          obtain ⟨i, rfl, hi, hu, hall⟩ := hrel
          obtain ⟨wo, hwo⟩ : ∃ W, W = wr := ⟨_, rfl⟩
          rw [← hwo] at hu ⊢
          clear hwo
          have HU := Lib.hid hu
          have HALL := Lib.hid hall
          clear hu hall
          have hi0 : (0 : Int) ≤ i := by omega
          have hi9 : (i : Int) ≤ 1000000 := by omega
          have e4 : wo.cell? ⟨w.heap.size + 1, 4, none⟩ = some (.slice C m k) := (CELLS.out wo HU.out).2
          by_cases hlt : i < m
          · have hlti : (i : Int) < m := by omega
            have hil : i < e.wishes.length := by rw [← HM.out]; exact hlt
            obtain ⟨g, o, eC, hc⟩ := (HC.out.upd (U1.out.trans HU.out)).at1 hil
            obtain ⟨x, hx⟩ : ∃ x, x = e.wishes[i] := ⟨_, rfl⟩
            rw [← hx] at hc
            subst eC
            have HX := Lib.hid hx
            have HCX := Lib.hid hc
            clear hx hc
            go_upto_block 2 with fail
            clear e4
            go_cut [6] from 27 to 57 (fun v wx => v = .bool (knownL d x) ∧ Kp w1 wx)
            case first =>
              go_wp2_with (fail)
              go_loopw [6, 7] (fun v1 v2 wr => ∃ (j : Nat) (kn : Bool), v1 = .bool kn ∧ v2 = .int .i64 j ∧ j ≤ n ∧ Kp w1 wr ∧ kn = (d.places.take j).any (fun p => decide (p.1 = x))) (fun _ v _ => n - (intOf v).toNat)
              case atStart => exact ⟨0, false, rfl, rfl, Nat.zero_le _, HU.out, by simp⟩
              case round =>
                obtain ⟨j, kn, rfl, rfl, hj, hu, hkn⟩ := hrel
                have HU2 := Lib.hid hu
                have HKN := Lib.hid hkn
                clear hu hkn
                have hj0 : (0 : Int) ≤ j := by omega
                have hj9 : (j : Int) ≤ 1000000 := by omega
                have d8 := (CELLS.out wr HU2.out).1
                have e4 := (CELLS.out wr HU2.out).2
                by_cases hlj : j < n
                · have hlji : (j : Int) < n := by omega
                  have hjl : j < d.places.length := by rw [← HN.out]; exact hlj
                  obtain ⟨g2, o2, eA, hc2⟩ := (HA.out.upd (U1.out.trans HU2.out)).at_ hjl
                  obtain ⟨nm, hnm⟩ : ∃ l, l = d.places[j].1 := ⟨_, rfl⟩
                  have cn : wr.cell? ⟨g2, o2 + j * 2, none⟩ = some (.string ⟨nm.toArray⟩) := by rw [hnm]; exact hc2 0 _ rfl
                  have HSTEP : Hid ((d.places.take (j + 1)).any (fun p => decide (p.1 = x)) = (kn || decide (nm = x))) := Lib.hid (by rw [List.take_succ_eq_append_getElem hjl, List.any_append, ← HKN.out, hnm]; simp)
                  subst eA
                  have cx : wr.cell? ⟨g, o + i, none⟩ = some (.string ⟨x.toArray⟩) := by
                    obtain ⟨g', o', e', h'⟩ := (HC.out.upd (U1.out.trans HU2.out)).at1 (show i < e.wishes.length by rw [← HM.out]; exact hlt)
                    cases e'
                    rw [HX.out]; exact h'
                  clear hc2 hnm
                  cases kn with
                  | true =>
                    go_wp2_with (fail)
                    go_quiet (fail)
                    go_wp2_with (fail)
                    go_roundw
                    all_goals (first
                      | exact ⟨j + 1, true, rfl, by go_num, by omega, Upd.drewN HU2.out _, by rw [HSTEP.out]; rfl⟩
                      | ((repeat apply Exists.intro); exact ⟨⟨j + 1, true, rfl, by go_num, by omega, Upd.drewN HU2.out _, by rw [HSTEP.out]; rfl⟩, rfl⟩)
                      | (simp [intOf]; omega))
                  | false =>
                    by_cases hnx : nm = x
                    · have hnb : (nm == x) = true := by simpa using hnx
                      have HNX := Lib.hid hnx
                      clear hnx
                      go_wp2_with (fail)
                      go_quiet (fail)
                      go_wp2_with (fail)
                      go_roundw
                      all_goals (first
                        | exact ⟨j + 1, true, rfl, by go_num, by omega, Upd.drewN HU2.out _, by rw [HSTEP.out]; simp [HNX.out]⟩
                        | ((repeat apply Exists.intro); exact ⟨⟨j + 1, true, rfl, by go_num, by omega, Upd.drewN HU2.out _, by rw [HSTEP.out]; simp [HNX.out]⟩, rfl⟩)
                        | (simp [intOf]; omega))
                    · have hnb : (nm == x) = false := by simpa using hnx
                      have HNX := Lib.hid hnx
                      clear hnx
                      go_wp2_with (fail)
                      go_quiet (fail)
                      go_wp2_with (fail)
                      go_roundw
                      all_goals (first
                        | exact ⟨j + 1, false, rfl, by go_num, by omega, Upd.drewN HU2.out _, by rw [HSTEP.out]; simp [HNX.out]⟩
                        | ((repeat apply Exists.intro); exact ⟨⟨j + 1, false, rfl, by go_num, by omega, Upd.drewN HU2.out _, by rw [HSTEP.out]; simp [HNX.out]⟩, rfl⟩)
                        | (simp [intOf]; omega))
                · obtain rfl : j = n := by omega
                  go_wp2_with (fail)
                  go_meet
                  exact ⟨by rw [HKN.out, HN.out, List.take_length]; rfl, HU2.out⟩
            case rest =>
              obtain ⟨rfl, hk9⟩ := hcut
              have HK9 := Lib.hid hk9
              clear hk9
              obtain ⟨b, hb⟩ : ∃ b, b = knownL d x := ⟨_, rfl⟩
              rw [← hb]
              have HB := Lib.hid hb
              clear hb
              cases b with
              | true =>
                go_wp2_with (fail)
                go_roundw
                all_goals (first
                  | exact ⟨i + 1, by go_num, by omega, HK9.out, fun j hj h => by
                      rcases Nat.lt_or_eq_of_le (Nat.le_of_lt_succ h) with h1 | h1
                      · exact HALL.out j hj h1
                      · subst h1; rw [← HX.out]; exact HB.out.symm⟩
                  | ((repeat apply Exists.intro); exact ⟨⟨i + 1, by go_num, by omega, HK9.out, fun j hj h => by
                      rcases Nat.lt_or_eq_of_le (Nat.le_of_lt_succ h) with h1 | h1
                      · exact HALL.out j hj h1
                      · subst h1; rw [← HX.out]; exact HB.out.symm⟩, rfl⟩)
                  | (simp [intOf]; omega))
              | false =>
                have hbf : ba = false := by
                  rw [HBA.out, List.all_eq_false]
                  exact ⟨x, by rw [HX.out]; exact List.getElem_mem _, by rw [← HB.out]; decide⟩
                go_wp2_with (fail)
                go_ret
                exact ⟨by rw [HR.out, hbf]; rfl, U1.out.trans HK9.out⟩
          · obtain rfl : i = m := by omega
            have hbt : ba = true := by
              rw [HBA.out, List.all_eq_true]
              intro y hy
              obtain ⟨j, hj, rfl⟩ := List.mem_iff_getElem.1 hy
              exact HALL.out j hj (by rw [HM.out]; exact hj)
            have HBT := Lib.hid hbt
            have HTW : Hid (Calls Try.prog 46 #[.slice C i k] wo (Gives wo (.bool br))) := Lib.hid (by
              rw [HBR.out]
              exact rtwice_any wo _ e.wishes (by have h := HW.out.upd (U1.out.trans HU.out); rw [← HM.out] at h; exact h) (by rw [← HM.out]; omega))
            clear hbt
            cases br with
            | true =>
              go_wp2_with (go_at_call 46; refine HTW.out.mono ?_; rintro en w2 ⟨rfl, hb⟩; have HB2 := Lib.hid hb; clear hb)
              go_ret
              exact ⟨by rw [HR.out, HBT.out]; rfl, U1.out.trans (HU.out.trans HB2.out)⟩
            | false =>
              go_wp2_with (go_at_call 46; refine HTW.out.mono ?_; rintro en w2 ⟨rfl, hb⟩; have HB2 := Lib.hid hb; clear hb)
              go_ret
              exact ⟨by rw [HR.out, HBT.out]; rfl, U1.out.trans (HU.out.trans HB2.out)⟩
end Go.Proofs.Ytaejnhgnacgheaa
