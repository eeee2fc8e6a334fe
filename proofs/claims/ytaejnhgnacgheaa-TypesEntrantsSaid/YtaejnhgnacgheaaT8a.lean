/- the reference of types: places (printed by gen-t8.py). -/
import Derived.Test.YtaejnhgnacgheaaT6
namespace Go.Proofs.Ytaejnhgnacgheaa
set_option linter.unusedVariables false
set_option linter.unusedSimpArgs false
open Go.RowKit

theorem all_gooda {α : Type} {L : List α} {p : α → Bool} (h : ∀ j, ∀ hj : j < L.length, p L[j] = true) : L.all p = true := by
  rw [List.all_eq_true]
  intro x hx
  obtain ⟨k, hk, rfl⟩ := List.mem_iff_getElem.1 hx
  exact h k hk
theorem all_bada {α : Type} {L : List α} {p : α → Bool} {k : Nat} (hk : k < L.length) (h : p L[k] = false) : L.all p = false := by
  rw [List.all_eq_false]
  exact ⟨L[k], List.getElem_mem _, by simp [h]⟩

set_option maxHeartbeats 4000000 in
set_option maxRecDepth 20000 in
theorem rplaces_any (w : World) (d : DrawL) (vt vp vq vb : Value) (h : DrawIn w d vt vp vq vb) : Calls Try.prog 35 #[dval d vt vp vq vb] w (Gives w (.int .i64 (placesL d))) := by
  obtain ⟨A, c, rfl, hA⟩ := h.p
  have HA := Lib.hid hA
  obtain ⟨names, hnm⟩ : ∃ l, l = d.places.map (·.1) := ⟨_, rfl⟩
  obtain ⟨n, hn⟩ : ∃ n, n = d.places.length := ⟨_, rfl⟩
  obtain ⟨q0, hq0⟩ : ∃ b, b = inR n 1 12 := ⟨_, rfl⟩
  have HR : Hid (placesL d = firstL [unl q0 2, unl (names.all isWord) 13, unl (d.places.all placeOk) 15, unl (!rep names) 33]) := Lib.hid (by rw [hnm, hq0, hn]; rfl)
  rw [← hn]
  have hN : n ≤ 1000000 := by rw [hn]; exact h.ok.places
  have HN := Lib.hid hn
  have HQ0 := Lib.hid hq0
  have HPN : Hid (∀ x, x ∈ d.places → okS x.1) := Lib.hid (fun x hx => h.ok.pname x hx)
  have HL0 : Hid (names.length = n) := Lib.hid (by rw [hnm, List.length_map, hn])
  have HNG : Hid (∀ k, ∀ hk : k < d.places.length, ∀ hk2 : k < names.length, names[k] = d.places[k].1) := Lib.hid (fun k hk hk2 => by subst hnm; simp)
  have HU1 : Hid (Kp w (w.alloc (.cells (dcells d vt (.slice A n c) vq vb).toArray 30))) := Lib.hid ((Upd.refl _ w).alloc _)
  obtain ⟨w1, hw1⟩ : ∃ w1, w1 = w.alloc (.cells (dcells d vt (.slice A n c) vq vb).toArray 30) := ⟨_, rfl⟩
  rw [← hw1] at HU1
  have cb : w1.cell? ⟨w.heap.size, 8, none⟩ = some (.slice A n c) := by rw [hw1]; simp
  have HCB := Lib.hid cb
  have HB10 : Hid (w1.cell? ⟨w.heap.size, 10, none⟩ = some (.int .i64 d.size)) := Lib.hid (by rw [hw1]; simp)
  clear h hA hn hnm hq0
  simp only [dcells] at hw1
  cases q0 with
  | false =>
    
    clear cb
    go_enter Try.func35, Try.ntmps35
    go_wp2_with (go_at_call 31; refine (rwithin_any _ _ _ _).mono ?_; rintro e wa ⟨rfl, rfl⟩; rw [← HQ0.out])
    go_ret
    rw [← hw1]
    exact ⟨by rw [HR.out]; rfl, HU1.out⟩
  | true =>
    
    go_enter Try.func35, Try.ntmps35
    go_wp2_with (go_at_call 31; refine (rwithin_any _ _ _ _).mono ?_; rintro e wa ⟨rfl, rfl⟩; rw [← HQ0.out])
    rw [← hw1]
    clear hw1 cb
    go_loopw [3, 4] (fun v3 v wr => ∃ (k : Nat) (A1 : Option Addr) (c1 : Nat), k ≤ n ∧ v = .int .i64 k ∧ v3 = .slice A1 k c1 ∧ Sl wr (.slice A1 k c1) 9 1 k ((names.take k).map fun s => Value.string ⟨s.toArray⟩) ∧ (∀ b, (Value.slice A1 k c1).ownBlock = some b → w1.heap.size ≤ b) ∧ (∀ j, ∀ hj : j < names.length, j < k → isWord names[j] = true) ∧ Kp w1 wr) (fun _ v _ => n - (intOf v).toNat)
    case atStart => exact ⟨0, none, 0, Nat.zero_le _, rfl, rfl, by simpa using Sl.nil_ _ _ 1, by simp [Value.ownBlock], by omega, Upd.refl _ _⟩
    case round =>
      obtain ⟨k, A1, c1, hk, rfl, rfl, ht, hb, hg, hu⟩ := hrel
      have HT := Lib.hid ht
      have HBB := Lib.hid hb
      have HG0 := Lib.hid hg
      have HU := Lib.hid hu
      have cb := hu.cellAt HCB.out
      clear ht hu hb hg
      by_cases hlt : k < n
      · have hkl : k < d.places.length := by have := HN.out; omega
        have hkl2 : k < names.length := by have := HL0.out; omega
        obtain ⟨gA, oA, hAA, hc0, hc1⟩ := (HA.out.upd (HU1.out.trans HU.out)).at2 hkl
        subst hAA
        have hok := HPN.out d.places[k] (List.getElem_mem _)
        have hng := HNG.out k hkl hkl2
        obtain ⟨x, hx⟩ : ∃ x, x = d.places[k] := ⟨_, rfl⟩
        rw [← hx] at hc0
        rw [← hx] at hc1
        rw [← hx] at hok hng
        have HX := Lib.hid hx
        have HW := Lib.hid (rword_any wr x.1 hok)
        have HNGK := Lib.hid hng
        obtain ⟨q, hq⟩ : ∃ q, q = isWord x.1 := ⟨_, rfl⟩
        rw [← hq] at HW
        have HQ := Lib.hid hq
        clear hx hok hng hq
        have hk0 : (0 : Int) ≤ k := by omega
        have hk1 : (k : Int) < n := by omega
        have hnm : k + 1 ≤ maxLen := by unfold maxLen; omega
        have hby : (k + 1) * 16 ≤ 140737488355328 := by omega
        have HNM := Lib.hid hnm
        have HBY := Lib.hid hby
        clear hnm hby
        cases q with
        | false =>
          go_wp2_with (go_at_call 30; refine HW.out.mono ?_; rintro e w2 ⟨rfl, hb⟩; have HB2 := Lib.hid hb; clear hb)
          go_ret
          refine ⟨?_, HU1.out.trans (HU.out.trans HB2.out)⟩
          rw [HR.out, all_bada (L := names) hkl2 (by rw [HNGK.out]; exact HQ.out.symm)]
          rfl
        | true =>
          go_wp2_with (first
            | (go_at_call 30; refine HW.out.mono ?_; rintro e w2 ⟨rfl, hb⟩; have HB2 := Lib.hid hb; have cb := hb.cellAt cb; have e0 := hb.cellAt hc0; clear hb)
            | (show wpList _ _ _ (⟨some 34, _, _, _, _, _⟩ :: _) _ _; go_must (refine wpList_append_sl rfl (.tmp 26) (.tmp 33) _ rfl T_strs rfl (HT.out.far (HB2.out.alloc _)) (m := 1) (news := [.string ⟨x.1.toArray⟩]) rfl (Rd.of_new (cs := #[.string ⟨x.1.toArray⟩]) (Row.new_at _ _ _ _ rfl) rfl) (by intro u hu; simp at hu; subst hu; rfl) HNM.out (by have := HBY.out; omega) ?_); intro v5 w3 hA; obtain ⟨A5, c5, rfl, _⟩ := hA.sl.form; have HAP := Lib.hid hA; have HE := Lib.hid (app_end HBB.out HU.out (HB2.out.alloc _) hA); clear hA))
          go_roundw
          case rel =>
            refine ⟨k + 1, A5, c5, by omega, by go_num, rfl, ?_, HE.out.1, fun j hj hjk => ?_, HE.out.2⟩
            · rw [List.take_succ_eq_append_getElem hkl2, List.map_append, HNGK.out]
              exact HAP.out.sl
            · rcases Nat.lt_or_ge j k with h | h
              · exact HG0.out j hj h
              · obtain rfl : j = k := by omega
                rw [HNGK.out]; exact HQ.out.symm
          case measure => simp [intOf]; omega
      · have hkn : k = n := by omega
        subst hkn
        have hst : Hid (Strs wr (.slice A1 k c1) names) := Lib.hid (by
          have hs := HT.out
          rw [List.take_of_length_le (by rw [HL0.out]; exact Nat.le_refl _)] at hs
          refine Sl.lst (e := 9) (fun _ => rfl) ?_
          rw [strE_flat, HL0.out]
          exact hs)
        have HALLW : Hid (names.all isWord = true) := Lib.hid (all_gooda (fun j hj => HG0.out j hj (by rw [HL0.out] at hj; exact hj)))
        have HK1 : Hid (Kp w wr) := Lib.hid (HU1.out.trans HU.out)
        have HCB2 : Hid (wr.cell? ⟨w.heap.size, 8, none⟩ = some (.slice A k c)) := Lib.hid cb
        have HB10 : Hid (wr.cell? ⟨w.heap.size, 10, none⟩ = some (.int .i64 d.size)) := Lib.hid (HU.out.cellAt HB10.out)
        clear HT HBB HG0 HU HCB
        obtain ⟨wx, rfl⟩ : ∃ wx : World, wx = wr := ⟨_, rfl⟩
        go_wp2_with (fail)
        go_loopw [5] (fun v wr => ∃ j : Nat, j ≤ k ∧ v = .int .i64 j ∧ (∀ i, ∀ hi : i < d.places.length, i < j → placeOk d.places[i] = true) ∧ Kp wx wr) (fun v _ => k - (intOf v).toNat)
        case atStart => exact ⟨0, Nat.zero_le _, rfl, by omega, Upd.refl _ _⟩
        case round =>
         obtain ⟨j, hj, rfl, hg, hu⟩ := hrel
         have HG := Lib.hid hg
         have HU3 := Lib.hid hu
         have cb := hu.cellAt HCB2.out
         clear hg hu
         by_cases hlt2 : j < k
         · have hjl : j < d.places.length := by have := HN.out; omega
           obtain ⟨gA, oA, hAA, hc0, hc1⟩ := (HA.out.upd (HK1.out.trans HU3.out)).at2 hjl
           subst hAA
           obtain ⟨x, hx⟩ : ∃ x, x = d.places[j] := ⟨_, rfl⟩
           rw [← hx] at hc0
           rw [← hx] at hc1
           have HX := Lib.hid hx
           clear hx
           have hj0 : (0 : Int) ≤ j := by omega
           have hj1 : (j : Int) < k := by omega
           obtain ⟨q1, hq1⟩ : ∃ q, q = placeOk x := ⟨_, rfl⟩
           have HQ1 := Lib.hid hq1
           clear hq1
           cases q1 with
           | false =>
             go_wp2_with (go_at_call 31; refine (rwithin_any _ _ _ _).mono ?_; rintro e wa ⟨rfl, rfl⟩; rw [show inR x.2 1 1000 = false from HQ1.out.symm])
             go_ret
             refine ⟨?_, HK1.out.trans HU3.out⟩
             rw [HR.out, HALLW.out, all_bada hjl (by rw [← HX.out]; exact HQ1.out.symm)]
             rfl
           | true =>
             go_wp2_with (go_at_call 31; refine (rwithin_any _ _ _ _).mono ?_; rintro e wa ⟨rfl, rfl⟩; rw [show inR x.2 1 1000 = true from HQ1.out.symm])
             go_roundw
             case rel =>
               refine ⟨j + 1, by omega, by go_num, fun i hi hij => ?_, HU3.out⟩
               rcases Nat.lt_or_ge i j with h | h
               · exact HG.out i hi h
               · obtain rfl : i = j := by omega
                 rw [← HX.out]; exact HQ1.out.symm
             case measure => simp [intOf]; omega

         · have hjk : j = k := by omega
           subst hjk
           have HALL2 : Hid (d.places.all placeOk = true) := Lib.hid (all_gooda (fun i hi => HG.out i hi (by rw [← HN.out] at hi; exact hi)))
           have hc := rtwice_any wr (.slice A1 j c1) names (hst.out.upd HU3.out) (by rw [HL0.out]; omega)
           obtain ⟨br, hbr⟩ : ∃ b, b = rep names := ⟨_, rfl⟩
           rw [← hbr] at hc
           have HBR := Lib.hid hbr
           have HC := Lib.hid hc
           clear hc hbr
           cases br with
           | false =>
             go_wp2_with (go_at_call 46; refine HC.out.mono ?_; rintro e w4 ⟨rfl, hb⟩; have HB4 := Lib.hid hb; clear hb)
             go_ret
             exact ⟨by rw [HR.out, HALLW.out, HALL2.out, ← HBR.out]; rfl, HK1.out.trans (HU3.out.trans HB4.out)⟩
           | true =>
             go_wp2_with (go_at_call 46; refine HC.out.mono ?_; rintro e w4 ⟨rfl, hb⟩; have HB4 := Lib.hid hb; clear hb)
             go_ret
             exact ⟨by rw [HR.out, HALLW.out, HALL2.out, ← HBR.out]; rfl, HK1.out.trans (HU3.out.trans HB4.out)⟩
end Go.Proofs.Ytaejnhgnacgheaa
