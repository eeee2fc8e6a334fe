/- the reference's Entrant (printed by gen-t37.py). -/
import Derived.Test.YtaejnhgnacgheaaT36
import Derived.Test.YtaejnhgnacgheaaT16
namespace Go.Proofs.Ytaejnhgnacgheaa
set_option linter.unusedVariables false
set_option linter.unusedSimpArgs false
open Go.RowKit

/-- a pick that is not as it should be -/
def badP (L : List Int) (pool : Int) (i : Nat) : Bool := !inR (L.getD i 0) 1 pool || (decide (0 < i) && decide (L.getD i 0 ≤ L.getD (i - 1) 0))
theorem getD_at {L : List Int} {i : Nat} (h : i < L.length) : L.getD i 0 = L[i] := by rw [List.getD_eq_getElem?_getD, List.getElem?_eq_getElem h]; rfl
theorem firstL_last {b1 b2 b3 : Bool} (x : Int) (h1 : b1 = true) (h2 : b2 = true) (h3 : b3 = true) : firstL [unl b1 15, unl b2 35, unl b3 14, x] = x := by
  subst h1 h2 h3
  by_cases h : x = 0 <;> simp [firstL, unl, h]
theorem picks_bad {d : DrawL} {e : EntL} {i : Nat} (hi : i < e.picks.length) (h : badP e.picks d.pool i = true) : picksL d e = 15 := by
  unfold picksL
  have key : (((decide ((e.picks.length : Int) = d.pick) && e.picks.all fun n => inR n 1 d.pool) && sortedB e.picks) && !rep e.picks) = false := by
    unfold badP at h
    rw [Bool.or_eq_true] at h
    rcases h with h | h
    · have : (e.picks.all fun n => inR n 1 d.pool) = false := by
        rw [List.all_eq_false]
        exact ⟨e.picks[i], List.getElem_mem _, by rw [getD_at hi] at h; simpa using h⟩
      simp [this]
    · rw [Bool.and_eq_true, decide_eq_true_eq, decide_eq_true_eq, getD_at hi, getD_at (by omega)] at h
      obtain ⟨h0, h1⟩ := h
      rcases Int.lt_or_eq_of_le h1 with h2 | h2
      · obtain ⟨j, rfl⟩ : ∃ j, i = j + 1 := ⟨i - 1, by omega⟩
        have : sortedB e.picks = false := sorted_bad hi (by simpa using h2)
        simp [this]
      · have : rep e.picks = true := rep_hit hi (by rw [h2]; exact List.mem_take_iff_getElem.2 ⟨i - 1, by omega, rfl⟩)
        simp [this]
  rw [key]; rfl
theorem picks_good {d : DrawL} {e : EntL} (hl : (e.picks.length : Int) = d.pick) (h : ∀ i, i < e.picks.length → badP e.picks d.pool i = false) : picksL d e = 0 := by
  have h1 : (e.picks.all fun n => inR n 1 d.pool) = true := by
    rw [List.all_eq_true]
    intro x hx
    obtain ⟨i, hi, rfl⟩ := List.mem_iff_getElem.1 hx
    have := h i hi
    unfold badP at this
    rw [Bool.or_eq_false_iff, getD_at hi] at this
    simpa using this.1
  have hstep : ∀ i, ∀ hi : i + 1 < e.picks.length, e.picks[i] < e.picks[i + 1] := by
    intro i hi
    have := h (i + 1) hi
    unfold badP at this
    rw [Bool.or_eq_false_iff, Bool.and_eq_false_iff, getD_at hi, getD_at (by omega)] at this
    have h2 := this.2
    simp at h2
    exact h2
  have hg : ∀ k i, ∀ hi : i + k + 1 < e.picks.length, e.picks[i]'(by omega) < e.picks[i + k + 1] := by
    intro k
    induction k with
    | zero => intro i hi; exact hstep i hi
    | succ k ih =>
      intro i hi
      have a := ih i (by omega)
      have b := hstep (i + k + 1) hi
      exact Int.lt_trans a b
  have hs : sortedB e.picks = true := sorted_good fun i hi => by have := hstep i hi; omega
  have hr : rep e.picks = false := by
    unfold rep
    have : e.picks.Nodup := by
      rw [List.nodup_iff_pairwise_ne, List.pairwise_iff_getElem]
      intro i j hi hj hij
      have := hg (j - i - 1) i (by omega)
      have e2 : i + (j - i - 1) + 1 = j := by omega
      simp only [e2] at this
      omega
    simp [this]
  unfold picksL
  rw [h1, hs, hr, decide_eq_true hl]
  rfl
set_option maxHeartbeats 8000000 in
set_option maxRecDepth 20000 in
theorem rentrant_any (w : World) (d : DrawL) (vt vp vq vb : Value) (h : DrawIn w d vt vp vq vb) (e : EntL) (xp xw xg : Value) (he : EntIn w e xp xw xg) : Calls Try.prog 19 #[dval d vt vp vq vb, evalE e xp xw xg] w (Gives w (.int .i64 (entrantL d e))) := by
  obtain ⟨Ab, cb, rfl, hA⟩ := h.b
  obtain ⟨A1, c1, rfl, hA1⟩ := he.p
  obtain ⟨A2, c2, rfl, hA2⟩ := he.wi
  obtain ⟨A3, c3, rfl, hA3⟩ := he.g
  have hb1 := h.ok.barred
  have hb2 := he.ok.picks
  have hb3 := he.ok.wishes
  have hb4 := he.ok.groups
  obtain ⟨nb, hnb⟩ : ∃ n, n = d.barred.length := ⟨_, rfl⟩
  obtain ⟨n1, hn1⟩ : ∃ n, n = e.picks.length := ⟨_, rfl⟩
  obtain ⟨n2, hn2⟩ : ∃ n, n = e.wishes.length := ⟨_, rfl⟩
  obtain ⟨n3, hn3⟩ : ∃ n, n = e.groups.length := ⟨_, rfl⟩
  have HIND : Hid (∀ W, Kp w W → DrawIn W d vt vp vq (.slice Ab nb cb)) := Lib.hid (fun W hW => by have h := h.kp hW; rw [← hnb] at h; exact h)
  have HINE : Hid (∀ W, Kp w W → EntIn W e (.slice A1 n1 c1) (.slice A2 n2 c2) (.slice A3 n3 c3)) := Lib.hid (fun W hW => by have h := he.kp hW; rw [← hn1, ← hn2, ← hn3] at h; exact h)
  rw [← hnb, ← hn1, ← hn2, ← hn3]
  rw [← hnb] at hb1
  rw [← hn1] at hb2
  rw [← hn2] at hb3
  rw [← hn3] at hb4
  have HA1 := Lib.hid hA1
  have HA3 := Lib.hid hA3
  have HNB := Lib.hid hnb
  have HN1 := Lib.hid hn1
  have HN2 := Lib.hid hn2
  have HN3 := Lib.hid hn3
  have HGR := Lib.hid he.ok.group
  obtain ⟨r, hr⟩ : ∃ r, r = runC d clausesL := ⟨_, rfl⟩
  have HEN : Hid (entrantL d e = if r.2 ≠ 0 then 1 else firstL [unl (inR e.id 1 1000000000) 15, unl (!d.barred.any fun y => decide (y = e.id)) 35, unl (ownL d e) 14, moreL d e]) := Lib.hid (by rw [hr]; rfl)
  have HOW : Hid (ownL d e = ((decide (d.kind = 1) || decide (n1 = 0)) && (decide (d.kind = 2) || !(decide (e.cls ≠ 0) || decide (e.fam ≠ 0) || decide (0 < n2))) && (decide (d.kind = 3) || decide (n3 = 0)))) := Lib.hid (by rw [hn1, hn2, hn3]; rfl)
  have hU : Kp w ((w.alloc (.cells (dcells d vt vp vq (.slice Ab nb cb)).toArray 30)).alloc (.cells (ecells e (.slice A1 n1 c1) (.slice A2 n2 c2) (.slice A3 n3 c3)).toArray 46)) := ((Upd.refl _ w).alloc _).alloc _
  have hrow1 : Row ((w.alloc (.cells (dcells d vt vp vq (.slice Ab nb cb)).toArray 30)).alloc (.cells (ecells e (.slice A1 n1 c1) (.slice A2 n2 c2) (.slice A3 n3 c3)).toArray 46)) w.heap.size 30 (dcells d vt vp vq (.slice Ab nb cb)) := (Row.new w _ _).upd ((Upd.refl (fun _ => False) _).alloc _) id
  have hrow2 : Row ((w.alloc (.cells (dcells d vt vp vq (.slice Ab nb cb)).toArray 30)).alloc (.cells (ecells e (.slice A1 n1 c1) (.slice A2 n2 c2) (.slice A3 n3 c3)).toArray 46)) (w.heap.size + 1) 46 (ecells e (.slice A1 n1 c1) (.slice A2 n2 c2) (.slice A3 n3 c3)) := Row.new_at _ _ _ _ (by simp)
  obtain ⟨w1, hw1⟩ : ∃ w1, w1 = ((w.alloc (.cells (dcells d vt vp vq (.slice Ab nb cb)).toArray 30)).alloc (.cells (ecells e (.slice A1 n1 c1) (.slice A2 n2 c2) (.slice A3 n3 c3)).toArray 46)) := ⟨_, rfl⟩
  rw [← hw1] at hU hrow1 hrow2
  have U1 := Lib.hid hU
  have D1 := Lib.hid hrow1
  have E1 := Lib.hid hrow2
  have hchk := rcheck_any w1 d vt vp vq (.slice Ab nb cb) (HIND.out w1 hU)
  rw [checkR_eq, ← hr] at hchk
  have HCHK := Lib.hid hchk
  have HR := Lib.hid hr
  obtain ⟨res, hres⟩ : ∃ x, x = entrantL d e := ⟨_, rfl⟩
  rw [← hres] at HEN ⊢
  clear h he hA hA1 hA2 hA3 hnb hn1 hn2 hn3 hr hU hrow1 hrow2 hchk hres
  simp only [dcells, ecells] at hw1
  obtain ⟨nm, er⟩ := r
  simp only at HEN
  go_enter Try.func19, Try.ntmps19
  go_upto_region 1 with fail
  rw [← hw1]
  clear hw1
  have hagg := Try.underlying30
  have hage := Try.underlying46
  have HAGG := Lib.hid hagg
  have HAGE := Lib.hid hage
  clear hagg hage
  by_cases her : er = 0
  · subst her
    replace HEN := Lib.hid (HEN.out.trans (if_neg (by simp)))
    have HK := Lib.hid (check_kind (d := d) (by rw [← HR.out]))
    go_upto_region 4 with (first
      | (show wpList _ _ _ (⟨some 11, _, _, _, _, _⟩ :: _) _ _; refine wpList_load_mid rfl 30 (.tmp 2) rfl w.heap.size 0 rfl (dcells d vt vp vq (.slice Ab nb cb)) _ D1.out.rangeAt HAGG.out rfl (by kernel_rfl) ?_)
      | (go_at_call 14; refine HCHK.out.mono ?_; rintro en w2 ⟨rfl, hb⟩; have HB2 := Lib.hid hb; clear hb))
    have U2 : Hid (Kp w w2) := Lib.hid (U1.out.trans HB2.out)
    have D2 := Lib.hid (D1.out.upd HB2.out id)
    have E2 := Lib.hid (E1.out.upd HB2.out id)
    have f0 : w2.cell? ⟨w.heap.size + 1, 0, none⟩ = some (.int .i64 e.id) := E2.out.cell 0
    obtain ⟨q1, hq1⟩ : ∃ b, b = inR e.id 1 1000000000 := ⟨_, rfl⟩
    obtain ⟨q2, hq2⟩ : ∃ b, b = d.barred.any fun y => decide (y = e.id) := ⟨_, rfl⟩
    rw [← hq1, ← hq2] at HEN
    have HQ1 := Lib.hid hq1
    have HQ2 := Lib.hid hq2
    clear hq1 hq2
    have HI1 : Hid (∀ W, Calls Try.prog 31 #[.int .i64 e.id, .int .i64 1, .int .i64 1000000000] W fun en w' => en = .returned (.bool q1) ∧ W = w') := Lib.hid (fun W => by rw [HQ1.out]; exact rwithin_any W _ _ _)
    cases q1 with
    | false =>
      go_wp2_with (go_at_call 31; refine (HI1.out _).mono ?_; rintro en wa ⟨rfl, rfl⟩)
      go_ret
      exact ⟨by rw [HEN.out]; rfl, U2.out⟩
    | true =>
      go_upto_region 6 with (go_at_call 31; refine (HI1.out _).mono ?_; rintro en wa ⟨rfl, rfl⟩)
      have d12 : w2.cell? ⟨w.heap.size, 12, none⟩ = some (.slice Ab nb cb) := D2.out.cell 12
      have HH2 : Hid (Calls Try.prog 44 #[.slice Ab nb cb, .int .i64 e.id] w2 (Gives w2 (.bool q2))) := Lib.hid (by rw [HQ2.out]; exact has_any w2 _ d.barred (HIND.out w2 U2.out).b (by have := HNB.out; omega) e.id)
      cases q2 with
      | true =>
        go_wp2_with (go_at_call 44; refine HH2.out.mono ?_; rintro en w3 ⟨rfl, hb⟩; have HB3 := Lib.hid hb; clear hb)
        go_ret
        exact ⟨by rw [HEN.out]; rfl, U2.out.trans HB3.out⟩
      | false =>
        go_upto_region 8 with (go_at_call 44; refine HH2.out.mono ?_; rintro en w3 ⟨rfl, hb⟩; have HB3 := Lib.hid hb; clear hb)
        clear f0 d12
        have U3 : Hid (Kp w w3) := Lib.hid (U2.out.trans HB3.out)
        have D3 := Lib.hid (D2.out.upd HB3.out id)
        have E3 := Lib.hid (E2.out.upd HB3.out id)
        have f1 : w3.cell? ⟨w.heap.size + 1, 1, none⟩ = some (.int .i64 e.cls) := E3.out.cell 1
        have f2 : w3.cell? ⟨w.heap.size + 1, 2, none⟩ = some (.int .i64 e.fam) := E3.out.cell 2
        have f4 : w3.cell? ⟨w.heap.size + 1, 4, none⟩ = some (.slice A2 n2 c2) := E3.out.cell 4
        obtain ⟨bal, hbal⟩ : ∃ b, b = (decide (e.cls ≠ 0) || decide (e.fam ≠ 0) || decide (0 < n2)) := ⟨_, rfl⟩
        rw [← hbal] at HOW
        have HBAL := Lib.hid hbal
        clear hbal
        go_cut [7] from 26 to 39 (fun x wx => x = .bool bal ∧ wx = w3)
        case first =>
          by_cases h1 : e.cls = 0
          · by_cases h2 : e.fam = 0
            · by_cases h3 : 0 < n2
              · have h3i : (0 : Int) < n2 := by omega
                go_wp2_with fail
                go_meet
                exact ⟨by rw [HBAL.out]; simp [h1, h2, h3], rfl⟩
              · have h3i : ¬ (0 : Int) < n2 := by omega
                go_wp2_with fail
                go_meet
                exact ⟨by rw [HBAL.out]; simp [h1, h2, h3], rfl⟩
            · go_wp2_with fail
              go_meet
              exact ⟨by rw [HBAL.out]; simp [h1, h2], rfl⟩
          · go_wp2_with fail
            go_meet
            exact ⟨by rw [HBAL.out]; simp [h1], rfl⟩
        case rest =>
          obtain ⟨rfl, hwc⟩ := hcut
          rw [hwc]
          clear hwc f1 f2 f4
          obtain ⟨kd, hkd⟩ : ∃ x, x = d.kind := ⟨_, rfl⟩
          have g1 : w3.cell? ⟨w.heap.size, 1, none⟩ = some (.int .i64 kd) := by rw [hkd]; exact D3.out.cell 1
          have g3 : w3.cell? ⟨w.heap.size + 1, 3, none⟩ = some (.slice A1 n1 c1) := E3.out.cell 3
          have g5 : w3.cell? ⟨w.heap.size + 1, 5, none⟩ = some (.slice A3 n3 c3) := E3.out.cell 5
          have hk := HK.out
          rw [← hkd] at hk HOW
          have HKD := Lib.hid hkd
          clear hkd
          have i1 : (0 : Int) ≤ n1 := by omega
          have i3 : (0 : Int) ≤ n3 := by omega
          rcases hk with rfl | rfl | rfl
          · cases bal with
            | true =>
              go_wp2_with fail
              go_ret
              exact ⟨by rw [HEN.out, HOW.out]; simp [firstL, unl], U3.out⟩
            | false =>
              by_cases h3 : 0 < n3
              · have h3i : (0 : Int) < n3 := by omega
                go_wp2_with fail
                go_ret
                exact ⟨by rw [HEN.out, HOW.out]; simp [show n3 ≠ 0 by omega, firstL, unl], U3.out⟩
              · have h3i : ¬ (0 : Int) < n3 := by omega
                replace HEN := Lib.hid (HEN.out.trans (by rw [show moreL d e = picksL d e from if_pos HKD.out.symm]; exact firstL_last _ rfl rfl (by rw [HOW.out]; simp; omega) : _ = picksL d e))
                have h3d : decide (0 < n3) = false := decide_eq_false h3
                clear HOW h3
                go_upto_region 13 with fail
                clear g5 h3i
                obtain ⟨pk, hpk⟩ : ∃ x, d.pick = x := ⟨_, rfl⟩
                have d5 : w3.cell? ⟨w.heap.size, 5, none⟩ = some (.int .i64 pk) := by rw [← hpk]; exact D3.out.cell 5
                have HPK := Lib.hid hpk
                clear hpk
                by_cases hpn : (n1 : Int) = pk
                · have hpb : ((n1 : Int) == pk) = true := by simpa using hpn
                  have hpb2 : ((n1 : Int) != pk) = false := by simpa using hpn
                  have HPN := Lib.hid hpn
                  clear hpn
                  go_upto_region 15 with fail
                  clear hpb hpb2 d5 g1 g3
                  go_wp2_with (fail)
                  (try rw [h3d])
                  clear h3d
                  obtain ⟨po, hpo⟩ : ∃ x, d.pool = x := ⟨_, rfl⟩
                  have HPO := Lib.hid hpo
                  clear hpo
                  go_loopw [8] (fun v wr => ∃ i : Nat, v = .int .i64 i ∧ i ≤ n1 ∧ Kp w3 wr ∧ ∀ j, j < e.picks.length → j < i → badP e.picks po j = false) (fun v _ => n1 - (intOf v).toNat)
                  case atStart => exact ⟨0, rfl, Nat.zero_le _, Upd.refl _ _, fun j hj h => by omega⟩
                  case round =>
                    obtain ⟨i, rfl, hi, hu, hall⟩ := hrel
                    have HU := Lib.hid hu
                    have HALL := Lib.hid hall
                    clear hu hall
                    have hi0 : (0 : Int) ≤ i := by omega
                    have hi9 : (i : Int) ≤ 1000000 := by omega
                    have g3 : wr.cell? ⟨w.heap.size + 1, 3, none⟩ = some (.slice A1 n1 c1) := (E3.out.upd HU.out id).cell 3
                    by_cases hlt : i < n1
                    · have hlti : (i : Int) < n1 := by omega
                      have hil : i < e.picks.length := by rw [← HN1.out]; exact hlt
                      have d4 : wr.cell? ⟨w.heap.size, 4, none⟩ = some (.int .i64 po) := by rw [← HPO.out]; exact (D3.out.upd HU.out id).cell 4
                      obtain ⟨g, o, eA, hc⟩ := (HA1.out.upd (U3.out.trans HU.out)).at1 hil
                      obtain ⟨x, hx⟩ : ∃ x, x = e.picks[i] := ⟨_, rfl⟩
                      rw [← hx] at hc
                      have HX := Lib.hid hx
                      obtain ⟨q, hq⟩ : ∃ b, b = inR x 1 po := ⟨_, rfl⟩
                      have HI3 : Hid (∀ W, Calls Try.prog 31 #[.int .i64 x, .int .i64 1, .int .i64 po] W fun en w' => en = .returned (.bool q) ∧ w' = W) := Lib.hid (fun W => by rw [hq]; exact (rwithin_any W _ _ _).mono (fun en w' h => ⟨h.1, h.2.symm⟩))
                      have HBD : Hid (badP e.picks po i = (!q || (decide (0 < i) && decide (x ≤ e.picks.getD (i - 1) 0)))) := Lib.hid (by unfold badP; rw [getD_at hil, ← hx, hq])
                      have HBAD : Hid (badP e.picks po i = true → picksL d e = 15) := Lib.hid (fun hh => picks_bad hil (by rw [HPO.out]; exact hh))
                      clear hx hq
                      cases q with
                      | false =>
                        subst eA
                        go_wp2_with (fail)
                        go_quiet ((go_at_call 31; exact Calls.quiet_of_same (HI3.out _)))
                        go_wp2_with (fail)
                        go_ret
                        exact ⟨by rw [HEN.out, HBAD.out (by rw [HBD.out]; rfl)]; rfl, U3.out.trans (Upd.drewN HU.out _)⟩
                      | true =>
                        by_cases h0 : 0 < i
                        · have h0i : (0 : Int) < i := by omega
                          obtain ⟨j, hj⟩ : ∃ j : Nat, j + 1 = i := ⟨i - 1, by omega⟩
                          have hjl : j < e.picks.length := by rw [← HN1.out]; omega
                          obtain ⟨g', o', eA', hc'⟩ := (HA1.out.upd (U3.out.trans HU.out)).at1 hjl
                          obtain ⟨y, hy⟩ : ∃ y, y = e.picks[j] := ⟨_, rfl⟩
                          rw [← hy] at hc'
                          replace HBD := Lib.hid (HBD.out.trans (by rw [show i - 1 = j by omega, getD_at hjl, ← hy]))
                          have hji : ((i : Int) - 1) = (j : Int) := by omega
                          have hjw : IntKind.i64.wrap ((i : Int) - 1) = (j : Int) := by rw [hji]; exact IntWalk.i64_in _ (by omega)
                          have hj0 : (0 : Int) ≤ (j : Int) := by omega
                          have hjn : (j : Int) < n1 := by omega
                          clear hy hji hj
                          subst eA
                          cases eA'
                          by_cases hxy : x ≤ y
                          · replace HBD := Lib.hid (HBD.out.trans (by rw [decide_eq_true hxy, decide_eq_true h0]; rfl : _ = true))
                            go_wp2_with (fail)
                            go_quiet ((go_at_call 31; exact Calls.quiet_of_same (HI3.out _)))
                            go_wp2_with (fail)
                            go_ret
                            exact ⟨by rw [HEN.out, HBAD.out HBD.out]; rfl, U3.out.trans (Upd.drewN HU.out _)⟩
                          · replace HBD := Lib.hid (HBD.out.trans (by rw [decide_eq_false hxy]; simp : _ = false))
                            have HNX : Hid (∀ j, j < e.picks.length → j < i + 1 → badP e.picks po j = false) := Lib.hid (fun j hj h => by
                              rcases Nat.lt_or_eq_of_le (Nat.le_of_lt_succ h) with h1 | h1
                              · exact HALL.out j hj h1
                              · rw [h1]; exact HBD.out)
                            go_wp2_with (fail)
                            go_quiet ((go_at_call 31; exact Calls.quiet_of_same (HI3.out _)))
                            go_wp2_with (fail)
                            go_roundw
                            case rel => exact ⟨i + 1, by go_num, by omega, Upd.drewN HU.out _, HNX.out⟩
                            all_goals (simp [intOf]; omega)
                        · have h0i : ¬ (0 : Int) < i := by omega
                          replace HBD := Lib.hid (HBD.out.trans (by rw [decide_eq_false h0]; simp : _ = false))
                          have HNX : Hid (∀ j, j < e.picks.length → j < i + 1 → badP e.picks po j = false) := Lib.hid (fun j hj h => by
                            rcases Nat.lt_or_eq_of_le (Nat.le_of_lt_succ h) with h1 | h1
                            · exact HALL.out j hj h1
                            · rw [h1]; exact HBD.out)
                          subst eA
                          go_wp2_with (fail)
                          go_quiet ((go_at_call 31; exact Calls.quiet_of_same (HI3.out _)))
                          go_wp2_with (fail)
                          go_roundw
                          case rel => exact ⟨i + 1, by go_num, by omega, Upd.drewN HU.out _, HNX.out⟩
                          all_goals (simp [intOf]; omega)
                    · obtain rfl : i = n1 := by omega
                      go_wp2_with (fail)
                      go_ret
                      exact ⟨by rw [HEN.out, picks_good (by rw [HPK.out, ← HN1.out]; exact HPN.out) (fun j hj => by rw [HPO.out]; exact HALL.out j hj (by rw [HN1.out]; exact hj))]; rfl, U3.out.trans HU.out⟩
                · have hpb : ((n1 : Int) == pk) = false := by simpa using hpn
                  have hpb2 : ((n1 : Int) != pk) = true := by simpa using hpn
                  have HPN := Lib.hid hpn
                  clear hpn
                  go_wp2_with fail
                  go_ret
                  exact ⟨by rw [HEN.out]; unfold picksL; rw [decide_eq_false (show ¬ ((e.picks.length : Int) = d.pick) by rw [← HN1.out, HPK.out]; exact HPN.out)]; rfl, U3.out⟩
          · by_cases h1 : 0 < n1
            · have h1i : (0 : Int) < n1 := by omega
              go_wp2_with fail
              go_ret
              exact ⟨by rw [HEN.out, HOW.out]; simp [show n1 ≠ 0 by omega, firstL, unl], U3.out⟩
            · have h1i : ¬ (0 : Int) < n1 := by omega
              by_cases h3 : 0 < n3
              · have h3i : (0 : Int) < n3 := by omega
                go_wp2_with fail
                go_ret
                exact ⟨by rw [HEN.out, HOW.out]; simp [show n3 ≠ 0 by omega, firstL, unl], U3.out⟩
              · have h3i : ¬ (0 : Int) < n3 := by omega
                replace HEN := Lib.hid (HEN.out.trans (by rw [show moreL d e = wishesL d e from (if_neg (by rw [← HKD.out]; decide)).trans (if_pos HKD.out.symm)]; exact firstL_last _ rfl rfl (by rw [HOW.out]; simp; omega) : _ = wishesL d e))
                clear HOW
                have HWI : Hid (Calls Try.prog 45 #[dval d vt vp vq (.slice Ab nb cb), evalE e (.slice A1 n1 c1) (.slice A2 n2 c2) (.slice A3 n3 c3)] w3 (Gives w3 (.int .i64 (wishesL d e)))) := Lib.hid (rwishes_any w3 d vt vp vq (.slice Ab nb cb) (HIND.out w3 U3.out) e (.slice A1 n1 c1) (.slice A2 n2 c2) (.slice A3 n3 c3) (HINE.out w3 U3.out))
                go_wp2_with (first
                  | (show wpList _ _ _ (⟨some 114, _, _, _, _, _⟩ :: _) _ _; refine wpList_load_mid rfl 30 (.tmp 2) rfl w.heap.size 0 rfl (dcells d vt vp vq (.slice Ab nb cb)) _ D3.out.rangeAt HAGG.out rfl (by kernel_rfl) ?_)
                  | (show wpList _ _ _ (⟨some 115, _, _, _, _, _⟩ :: _) _ _; refine wpList_load_mid rfl 46 (.tmp 3) rfl (w.heap.size + 1) 0 rfl (ecells e (.slice A1 n1 c1) (.slice A2 n2 c2) (.slice A3 n3 c3)) _ E3.out.rangeAt HAGE.out rfl (by kernel_rfl) ?_)
                  | (go_at_call 45; refine HWI.out.mono ?_; rintro en w4 ⟨rfl, hb⟩; have HB4 := Lib.hid hb; clear hb))
                go_ret
                exact ⟨by rw [HEN.out]; rfl, U3.out.trans HB4.out⟩
          · by_cases h1 : 0 < n1
            · have h1i : (0 : Int) < n1 := by omega
              go_wp2_with fail
              go_ret
              exact ⟨by rw [HEN.out, HOW.out]; simp [show n1 ≠ 0 by omega, firstL, unl], U3.out⟩
            · have h1i : ¬ (0 : Int) < n1 := by omega
              cases bal with
              | true =>
                go_wp2_with fail
                go_ret
                exact ⟨by rw [HEN.out, HOW.out]; simp [firstL, unl], U3.out⟩
              | false =>
                replace HEN := Lib.hid (HEN.out.trans (by rw [show moreL d e = groupsL e from (if_neg (by rw [← HKD.out]; decide)).trans (if_neg (by rw [← HKD.out]; decide))]; exact firstL_last _ rfl rfl (by rw [HOW.out]; simp; omega) : _ = groupsL e))
                clear HOW
                by_cases h12 : 12 < n3
                · have h12i : (12 : Int) < n3 := by omega
                  go_wp2_with fail
                  go_ret
                  exact ⟨by rw [HEN.out]; unfold groupsL; rw [decide_eq_false (show ¬ ((e.groups.length : Int) ≤ 12) by rw [← HN3.out]; omega)]; rfl, U3.out⟩
                · have h12i : ¬ (12 : Int) < n3 := by omega
                  obtain ⟨ba, hba⟩ : ∃ b, b = e.groups.all isWord := ⟨_, rfl⟩
                  obtain ⟨br, hbr⟩ : ∃ b, b = rep e.groups := ⟨_, rfl⟩
                  replace HEN := Lib.hid (HEN.out.trans (by unfold groupsL; rw [decide_eq_true (show ((e.groups.length : Int) ≤ 12) by rw [← HN3.out]; omega), ← hba, ← hbr]; rfl : _ = firstL [0, unl ba 13, unl (!br) 33]))
                  have HBA := Lib.hid hba
                  have HBR := Lib.hid hbr
                  clear hba hbr
                  go_upto_region 25 with fail
                  clear h12i h12 h1i h1 g1 g3 g5
                  go_wp2_with fail
                  go_loopw [9] (fun v wr => ∃ i : Nat, v = .int .i64 i ∧ i ≤ n3 ∧ Kp w3 wr ∧ ∀ j, ∀ hj : j < e.groups.length, j < i → isWord e.groups[j] = true) (fun v _ => n3 - (intOf v).toNat)
                  case atStart => exact ⟨0, rfl, Nat.zero_le _, Upd.refl _ _, fun j hj h => by omega⟩
                  case round =>
                    obtain ⟨i, rfl, hi, hu, hall⟩ := hrel
                    have HU := Lib.hid hu
                    have HALL := Lib.hid hall
                    clear hu hall
                    have hi0 : (0 : Int) ≤ i := by omega
                    have hi9 : (i : Int) ≤ 1000000 := by omega
                    have g5 : wr.cell? ⟨w.heap.size + 1, 5, none⟩ = some (.slice A3 n3 c3) := (E3.out.upd HU.out id).cell 5
                    by_cases hlt : i < n3
                    · have hlti : (i : Int) < n3 := by omega
                      have hil : i < e.groups.length := by rw [← HN3.out]; exact hlt
                      obtain ⟨g, o, eA, hc⟩ := (HA3.out.upd (U3.out.trans HU.out)).at1 hil
                      have hok := HGR.out e.groups[i] (List.getElem_mem _)
                      obtain ⟨x, hx⟩ : ∃ x, x = e.groups[i] := ⟨_, rfl⟩
                      rw [← hx] at hc hok
                      have HX := Lib.hid hx
                      obtain ⟨q, hq⟩ : ∃ b, b = isWord x := ⟨_, rfl⟩
                      have HW : Hid (Calls Try.prog 30 #[.string ⟨x.toArray⟩] wr (Gives wr (.bool q))) := Lib.hid (by rw [hq]; exact rword_any wr x hok)
                      have HQ := Lib.hid hq
                      subst eA
                      clear hx hq hok
                      cases q with
                      | false =>
                        have hbf : ba = false := by
                          rw [HBA.out, List.all_eq_false]
                          exact ⟨x, by rw [HX.out]; exact List.getElem_mem _, by rw [← HQ.out]; decide⟩
                        go_wp2_with (go_at_call 30; refine HW.out.mono ?_; rintro en w4 ⟨rfl, hb⟩; have HB4 := Lib.hid hb; clear hb)
                        go_ret
                        exact ⟨by rw [HEN.out, hbf]; rfl, U3.out.trans (HU.out.trans HB4.out)⟩
                      | true =>
                        have HNX : Hid (∀ j, ∀ hj : j < e.groups.length, j < i + 1 → isWord e.groups[j] = true) := Lib.hid (fun j hj h => by
                          rcases Nat.lt_or_eq_of_le (Nat.le_of_lt_succ h) with h1 | h1
                          · exact HALL.out j hj h1
                          · subst h1; rw [← HX.out]; exact HQ.out.symm)
                        go_wp2_with (go_at_call 30; refine HW.out.mono ?_; rintro en w4 ⟨rfl, hb⟩; have HB4 := Lib.hid hb; clear hb)
                        go_roundw
                        case rel => exact ⟨i + 1, by go_num, by omega, HU.out.trans HB4.out, HNX.out⟩
                        all_goals (simp [intOf]; omega)
                    · obtain rfl : i = n3 := by omega
                      have hbt : ba = true := by
                        rw [HBA.out, List.all_eq_true]
                        intro y hy
                        obtain ⟨j, hj, rfl⟩ := List.mem_iff_getElem.1 hy
                        exact HALL.out j hj (by rw [HN3.out]; exact hj)
                      have HBT := Lib.hid hbt
                      have HTW : Hid (Calls Try.prog 46 #[.slice A3 i c3] wr (Gives wr (.bool br))) := Lib.hid (by
                        rw [HBR.out]
                        exact rtwice_any wr _ e.groups (HINE.out wr (U3.out.trans HU.out)).g (by rw [← HN3.out]; omega))
                      clear hbt
                      cases br with
                      | true =>
                        go_wp2_with (go_at_call 46; refine HTW.out.mono ?_; rintro en w4 ⟨rfl, hb⟩; have HB4 := Lib.hid hb; clear hb)
                        go_ret
                        exact ⟨by rw [HEN.out, HBT.out]; rfl, U3.out.trans (HU.out.trans HB4.out)⟩
                      | false =>
                        go_wp2_with (go_at_call 46; refine HTW.out.mono ?_; rintro en w4 ⟨rfl, hb⟩; have HB4 := Lib.hid hb; clear hb)
                        go_ret
                        exact ⟨by rw [HEN.out, HBT.out]; rfl, U3.out.trans (HU.out.trans HB4.out)⟩
  · have hne : (er != 0) = true := by simpa using her
    replace HEN := Lib.hid (HEN.out.trans (if_pos (by simpa using her)))
    go_wp2_with (first
      | (show wpList _ _ _ (⟨some 11, _, _, _, _, _⟩ :: _) _ _; refine wpList_load_mid rfl 30 (.tmp 2) rfl w.heap.size 0 rfl (dcells d vt vp vq (.slice Ab nb cb)) _ D1.out.rangeAt HAGG.out rfl (by kernel_rfl) ?_)
      | (go_at_call 14; refine HCHK.out.mono ?_; rintro en w2 ⟨rfl, hb⟩; have HB2 := Lib.hid hb; clear hb))
    go_ret
    exact ⟨by rw [HEN.out]; rfl, U1.out.trans HB2.out⟩
end Go.Proofs.Ytaejnhgnacgheaa
