/- the reference of types: tiers (printed by gen-t8.py). -/
import Derived.Test.YtaejnhgnacgheaaT6
namespace Go.Proofs.Ytaejnhgnacgheaa
set_option linter.unusedVariables false
set_option linter.unusedSimpArgs false
open Go.RowKit

theorem all_goodc {α : Type} {L : List α} {p : α → Bool} (h : ∀ j, ∀ hj : j < L.length, p L[j] = true) : L.all p = true := by
  rw [List.all_eq_true]
  intro x hx
  obtain ⟨k, hk, rfl⟩ := List.mem_iff_getElem.1 hx
  exact h k hk
theorem all_badc {α : Type} {L : List α} {p : α → Bool} {k : Nat} (hk : k < L.length) (h : p L[k] = false) : L.all p = false := by
  rw [List.all_eq_false]
  exact ⟨L[k], List.getElem_mem _, by simp [h]⟩

theorem rwithin_quiet : Hid (∀ W a b c, Calls Try.prog 31 #[.int .i64 a, .int .i64 b, .int .i64 c] W (fun e w' => e = .returned (.bool (inR a b c)) ∧ w' = W)) :=
  Lib.hid (fun W a b c => (rwithin_any W a b c).mono (fun e w' h => ⟨h.1, h.2.symm⟩))
set_option maxHeartbeats 2000000 in
set_option maxRecDepth 20000 in
theorem rtiers_any (w : World) (d : DrawL) (vt vp vq vb : Value) (h : DrawIn w d vt vp vq vb) : Calls Try.prog 34 #[dval d vt vp vq vb] w (Gives w (.int .i64 (tiersL d))) := by
  obtain ⟨A, c, rfl, hA⟩ := h.t
  have HA := Lib.hid hA
  obtain ⟨ms, hnm⟩ : ∃ l, l = d.tiers.map (·.1) := ⟨_, rfl⟩
  obtain ⟨n, hn⟩ : ∃ n, n = d.tiers.length := ⟨_, rfl⟩
  obtain ⟨q0, hq0⟩ : ∃ b, b = inR n 1 12 := ⟨_, rfl⟩
  have HR : Hid (tiersL d = firstL [unl q0 2, unl (d.tiers.all (tierOk d.pick)) 15, unl (!rep ms) 33, unl (decide ((if d.tiers.all (tierOk d.pick) then (d.tiers.map (·.2)).sum else 0) ≤ 100)) 15]) := Lib.hid (by rw [hnm, hq0, hn]; rfl)
  rw [← hn]
  have hN : n ≤ 1000000 := by rw [hn]; exact h.ok.tiers
  have HN := Lib.hid hn
  have HQ0 := Lib.hid hq0
  have HPN : Hid (∀ x, x ∈ d.tiers → in64 x.1) := Lib.hid (fun x hx => h.ok.tmatch x hx)
  have HL0 : Hid (ms.length = n) := Lib.hid (by rw [hnm, List.length_map, hn])
  have HNG : Hid (∀ k, ∀ hk : k < d.tiers.length, ∀ hk2 : k < ms.length, ms[k] = d.tiers[k].1) := Lib.hid (fun k hk hk2 => by subst hnm; simp)
  have HU1 : Hid (Kp w (w.alloc (.cells (dcells d (.slice A n c) vp vq vb).toArray 30))) := Lib.hid ((Upd.refl _ w).alloc _)
  obtain ⟨w1, hw1⟩ : ∃ w1, w1 = w.alloc (.cells (dcells d (.slice A n c) vp vq vb).toArray 30) := ⟨_, rfl⟩
  rw [← hw1] at HU1
  have HCB : Hid (w1.cell? ⟨w.heap.size, 6, none⟩ = some (.slice A n c)) := Lib.hid (by rw [hw1]; simp)
  have HB5 : Hid (w1.cell? ⟨w.heap.size, 5, none⟩ = some (.int .i64 d.pick)) := Lib.hid (by rw [hw1]; simp)
  clear h hA hn hnm hq0
  simp only [dcells] at hw1
  cases q0 with
  | false =>
    go_enter Try.func34, Try.ntmps34
    go_wp2_with (go_at_call 31; refine (rwithin_any _ _ _ _).mono ?_; rintro e wa ⟨rfl, rfl⟩; rw [← HQ0.out])
    go_ret
    rw [← hw1]
    exact ⟨by rw [HR.out]; rfl, HU1.out⟩
  | true =>
    go_enter Try.func34, Try.ntmps34
    go_wp2_with (go_at_call 31; refine (rwithin_any _ _ _ _).mono ?_; rintro e wa ⟨rfl, rfl⟩; rw [← HQ0.out])
    rw [← hw1]
    clear hw1
    go_loopw [3, 4, 5] (fun v3 v4 v wr => ∃ (k : Nat) (A1 : Option Addr) (c1 : Nat), k ≤ n ∧ v = .int .i64 k ∧ v3 = .slice A1 k c1 ∧ v4 = .int .i64 ((d.tiers.take k).map (·.2)).sum ∧ Sl wr (.slice A1 k c1) 3 1 k ((ms.take k).map fun s => Value.int .i64 s) ∧ (∀ b, (Value.slice A1 k c1).ownBlock = some b → w1.heap.size ≤ b) ∧ (∀ j, ∀ hj : j < d.tiers.length, j < k → tierOk d.pick d.tiers[j] = true) ∧ Kp w1 wr) (fun _ _ v _ => n - (intOf v).toNat)
    case atStart => exact ⟨0, none, 0, Nat.zero_le _, rfl, rfl, by simp, by simpa using Sl.nil_ _ _ 1, by simp [Value.ownBlock], by omega, Upd.refl _ _⟩
    case round =>
      obtain ⟨k, A1, c1, hk, rfl, rfl, rfl, ht, hb, hg, hu⟩ := hrel
      have HT := Lib.hid ht
      have HBB := Lib.hid hb
      have HG0 := Lib.hid hg
      have HU := Lib.hid hu
      have cb := hu.cellAt HCB.out
      have cb5 := hu.cellAt HB5.out
      clear ht hu hb hg
      by_cases hlt : k < n
      · have hkl : k < d.tiers.length := by have := HN.out; omega
        have hkl2 : k < ms.length := by have := HL0.out; omega
        obtain ⟨gA, oA, hAA, hc0, hc1⟩ := (HA.out.upd (HU1.out.trans HU.out)).at2 hkl
        subst hAA
        have hng := HNG.out k hkl hkl2
        have HST := Lib.hid (sum_step hkl)
        have hsb : 0 ≤ ((d.tiers.take k).map (·.2)).sum ∧ ((d.tiers.take k).map (·.2)).sum ≤ 100 * n := by
          have hall : ∀ t, t ∈ d.tiers.take k → 1 ≤ t.2 ∧ t.2 ≤ 100 := fun t ht => by
            obtain ⟨j, hj, rfl⟩ := List.mem_take_iff_getElem.1 ht
            have h1 := HG0.out j (by omega) (by omega)
            unfold tierOk inR at h1
            simp only [Bool.and_eq_true, decide_eq_true_eq] at h1
            exact h1.2
          have h2 := sum_bd hall k
          rw [List.take_take, Nat.min_self, List.length_take] at h2
          have h3 : min k d.tiers.length ≤ n := by rw [← HN.out]; exact Nat.min_le_right _ _
          omega
        obtain ⟨s0, hs0⟩ : ∃ s0, s0 = ((d.tiers.take k).map (·.2)).sum := ⟨_, rfl⟩
        rw [← hs0] at hsb ⊢
        obtain ⟨x, hx⟩ : ∃ x, x = d.tiers[k] := ⟨_, rfl⟩
        rw [← hx] at hc0 hc1 hng
        have HX := Lib.hid hx
        have HS0 := Lib.hid hs0
        have HNGK := Lib.hid hng
        clear hx hs0 hng
        obtain ⟨q1, hq1⟩ : ∃ q, q = inR x.1 0 d.pick := ⟨_, rfl⟩
        obtain ⟨q2, hq2⟩ : ∃ q, q = inR x.2 1 100 := ⟨_, rfl⟩
        have HQ1 := Lib.hid hq1
        have HQ2 := Lib.hid hq2
        have hq1' := hq1.symm
        have hq2' := hq2.symm
        clear hq1 hq2
        have hk0 : (0 : Int) ≤ k := by omega
        have hk1 : (k : Int) < n := by omega
        have hnm : k + 1 ≤ maxLen := by unfold maxLen; omega
        have hby : (k + 1) * 8 ≤ 140737488355328 := by omega
        have HNM := Lib.hid hnm
        have HBY := Lib.hid hby
        have HSB := Lib.hid hsb
        clear hnm hby hsb
        cases q1 with
        | false =>
          go_wp2_with (fail)
          go_quiet ((go_at_call 31; exact Calls.quiet_of_same (rwithin_quiet.out _ _ _ _)))
          go_wp2
          go_ret
          refine ⟨?_, HU1.out.trans (Upd.drewN HU.out _)⟩
          rw [HR.out, all_badc (L := d.tiers) hkl (by rw [← HX.out]; unfold tierOk; rw [← HQ1.out]; rfl)]
          rfl
        | true =>
         cases q2 with
         | false =>
          go_wp2_with (fail)
          go_quiet ((go_at_call 31; exact Calls.quiet_of_same (rwithin_quiet.out _ _ _ _)))
          go_wp2
          go_ret
          refine ⟨?_, HU1.out.trans (Upd.drewN HU.out _)⟩
          rw [HR.out, all_badc (L := d.tiers) hkl (by rw [← HX.out]; unfold tierOk; rw [← HQ1.out, ← HQ2.out]; rfl)]
          rfl
         | true =>
          have hx2 : 1 ≤ x.2 ∧ x.2 ≤ 100 := by
            have h1 := HQ2.out.symm
            unfold inR at h1
            simp only [Bool.and_eq_true, decide_eq_true_eq] at h1
            exact h1
          have hwr : IntKind.i64.wrap (s0 + x.2) = s0 + x.2 := (by have := HSB.out; rw [IntKind.wrap_i64]; omega)
          have hwr2 : wrap64 (s0 + x.2) = s0 + x.2 := (by have := HSB.out; unfold wrap64; omega)
          clear hx2
          go_wp2_with (fail)
          go_quiet ((go_at_call 31; exact Calls.quiet_of_same (rwithin_quiet.out _ _ _ _)))
          have HUQ : Hid (Kp wr (wr.drewN nq)) := Lib.hid (Upd.drewN (Upd.refl _ wr) _)
          have HUW : Hid (Kp w1 (wr.drewN nq)) := Lib.hid (Upd.drewN HU.out _)
          have cbq : (wr.drewN nq).cell? ⟨w.heap.size, 6, none⟩ = some (.slice (some ⟨gA, oA, none⟩) n c) := cb
          have e0 : (wr.drewN nq).cell? ⟨gA, oA + k * 2, none⟩ = some (.int .i64 x.1) := hc0
          have e1 : (wr.drewN nq).cell? ⟨gA, oA + k * 2 + 1, none⟩ = some (.int .i64 x.2) := hc1
          have HTQ : Hid (Sl (wr.drewN nq) (.slice A1 k c1) 3 1 k ((ms.take k).map fun s => Value.int .i64 s)) := Lib.hid (HT.out.far HUQ.out)
          obtain ⟨wz, hwz⟩ : ∃ wz, wz = wr.drewN nq := ⟨_, rfl⟩
          rw [← hwz] at HUQ HUW cbq e0 e1 HTQ ⊢
          clear hwz cb cb5 hc0 hc1
          go_wp2_with (show wpList _ _ _ (⟨some 46, _, _, _, _, _⟩ :: _) _ _; go_must (refine wpList_append_sl rfl (.tmp 38) (.tmp 45) _ rfl T_ints rfl (HTQ.out.far ((Upd.refl _ wz).alloc _)) (m := 1) (news := [.int .i64 x.1]) rfl (Rd.of_new (cs := #[.int .i64 x.1]) (Row.new_at _ _ _ _ rfl) rfl) (by intro u hu; simp at hu; subst hu; rfl) HNM.out HBY.out ?_); intro v5 w3 hA; obtain ⟨A5, c5, rfl, _⟩ := hA.sl.form; have HAP := Lib.hid hA; have HE := Lib.hid (app_end HBB.out HUW.out ((Upd.refl _ wz).alloc _) hA); have cbq := HE.out.2.cellAt HCB.out; have e1 := ((HA.out.upd (HU1.out.trans HE.out.2)).at2 hkl); obtain ⟨g3, o3, hg3, _, e1⟩ := e1; cases hg3; rw [← HX.out] at e1; clear hA)
          go_roundw
          case rel =>
            refine ⟨k + 1, A5, c5, by omega, by go_num, rfl, by rw [HST.out, ← HX.out, ← HS0.out], ?_, HE.out.1, fun j hj hjk => ?_, HE.out.2⟩
            · rw [List.take_succ_eq_append_getElem hkl2, List.map_append, HNGK.out]
              exact HAP.out.sl
            · rcases Nat.lt_or_ge j k with h | h
              · exact HG0.out j hj h
              · obtain rfl : j = k := by omega
                rw [← HX.out]; unfold tierOk; rw [← HQ1.out, ← HQ2.out]; rfl
          case measure => simp [intOf]; omega
      · have hkn : k = n := by omega
        subst hkn
        have hst : Hid (Nums wr (.slice A1 k c1) ms) := Lib.hid (by
          have hs := HT.out
          rw [List.take_of_length_le (by rw [HL0.out]; exact Nat.le_refl _)] at hs
          refine Sl.lst (e := 3) (fun _ => rfl) ?_
          rw [numE_flat, HL0.out]
          exact hs)
        have HALLT : Hid (d.tiers.all (tierOk d.pick) = true) := Lib.hid (all_goodc (fun j hj => HG0.out j hj (by rw [HN.out]; exact hj)))
        obtain ⟨s0, hs0⟩ : ∃ s0, s0 = ((d.tiers.take k).map (·.2)).sum := ⟨_, rfl⟩
        rw [← hs0]
        rw [List.take_of_length_le (by rw [← HN.out]; exact Nat.le_refl _)] at hs0
        have HS0 := Lib.hid hs0
        have hc := same_any wr (.slice A1 k c1) ms hst.out (by rw [HL0.out]; omega)
        obtain ⟨br, hbr⟩ : ∃ b, b = rep ms := ⟨_, rfl⟩
        rw [← hbr] at hc
        have HBR := Lib.hid hbr
        have HC := Lib.hid hc
        clear hc hbr hs0
        cases br with
        | true =>
          go_wp2_with (go_at_call 33; refine HC.out.mono ?_; rintro e w4 ⟨rfl, hb⟩; have HB4 := Lib.hid hb; clear hb)
          go_ret
          exact ⟨by rw [HR.out, HALLT.out, ← HBR.out]; rfl, HU1.out.trans (HU.out.trans HB4.out)⟩
        | false =>
          by_cases h100 : s0 ≤ 100
          · have hgt : ¬ 100 < s0 := by omega
            go_wp2_with (go_at_call 33; refine HC.out.mono ?_; rintro e w4 ⟨rfl, hb⟩; have HB4 := Lib.hid hb; clear hb)
            go_ret
            exact ⟨by rw [HR.out, HALLT.out, ← HBR.out, ← HS0.out, if_pos rfl, decide_eq_true h100]; rfl, HU1.out.trans (HU.out.trans HB4.out)⟩
          · have hgt : 100 < s0 := by omega
            go_wp2_with (go_at_call 33; refine HC.out.mono ?_; rintro e w4 ⟨rfl, hb⟩; have HB4 := Lib.hid hb; clear hb)
            go_ret
            exact ⟨by rw [HR.out, HALLT.out, ← HBR.out, ← HS0.out, if_pos rfl, decide_eq_false (show ¬ s0 ≤ 100 by omega)]; rfl, HU1.out.trans (HU.out.trans HB4.out)⟩
end Go.Proofs.Ytaejnhgnacgheaa
