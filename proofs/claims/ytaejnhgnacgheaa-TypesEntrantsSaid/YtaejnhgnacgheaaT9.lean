/- the reference's Check answers what the package's answers (printed by gen-t9.py). -/
import Derived.Test.YtaejnhgnacgheaaT7
import Derived.Test.YtaejnhgnacgheaaT6f
import Derived.Test.YtaejnhgnacgheaaT8a
import Derived.Test.YtaejnhgnacgheaaT8b
import Derived.Test.YtaejnhgnacgheaaT8c
namespace Go.Proofs.Ytaejnhgnacgheaa
set_option linter.unusedVariables false
set_option linter.unusedSimpArgs false
open Go.RowKit

/-- Check, as the reference says it -/
def checkR (d : DrawL) : List UInt8 × Int :=
  if isWord d.name = false then ([110, 97, 109, 101], 13) else
  if inR d.kind 1 3 = false ∨ foreignL d = true then ([107, 105, 110, 100], 14) else
  if inR d.round 1 1000000000 = false then ([114, 111, 117, 110, 100], 15) else
  if inR d.price 0 1000000 = false then ([112, 114, 105, 99, 101], 15) else
  if 40 < d.barred.length then ([98, 97, 114], 2) else
  if rep d.barred = true then ([98, 97, 114], 33) else
  if d.kind = 1 then
    (if inR d.pool 1 60 = false then ([112, 111, 111, 108], 15) else if inR d.pick 1 (if d.pool < 10 then d.pool else 10) = false then ([112, 105, 99, 107], 15) else if tiersL d ≠ 0 then ([116, 105, 101, 114], tiersL d) else ([], 0))
  else if d.kind = 2 then
    (if placesL d ≠ 0 then ([112, 108, 97, 99, 101], placesL d) else if inR d.cls 0 9 = false then ([99, 108, 97, 115, 115], 15) else ([], 0))
  else if d.kind = 3 then
    (if inR d.size 1 40 = false then ([115, 105, 122, 101], 15) else if quotasL d ≠ 0 then ([113, 117, 111, 116, 97], quotasL d) else ([], 0))
  else ([], 0)

theorem unl_zero (b : Bool) {x : Int} (hx : x ≠ 0) : unl b x ≠ 0 ↔ b = false := by cases b <;> simp [unl, hx]
theorem unl_false (x : Int) : unl false x = x := rfl
theorem bar_eq (d : DrawL) : firstL [unl (decide ((d.barred.length : Int) ≤ 40)) 2, unl (!rep d.barred) 33] = if 40 < d.barred.length then 2 else if rep d.barred = true then 33 else 0 := by
  by_cases h : 40 < d.barred.length
  · rw [if_pos h, decide_eq_false (by omega)]; rfl
  · rw [if_neg h, decide_eq_true (by omega)]
    cases rep d.barred <;> rfl
theorem checkR_eq (d : DrawL) : checkR d = runC d clausesL := by
  unfold checkR clausesL
  simp only [runC, true_or, true_and, bar_eq, unl_zero _ (show (13 : Int) ≠ 0 by decide), unl_zero _ (show (14 : Int) ≠ 0 by decide), unl_zero _ (show (15 : Int) ≠ 0 by decide)]
  by_cases h1 : isWord d.name = false
  · simp [h1, unl_false]
  · rw [if_neg h1, if_neg h1]
    by_cases h2 : inR d.kind 1 3 = false ∨ foreignL d = true
    · have h2' : (inR d.kind 1 3 && !foreignL d) = false := by rcases h2 with h | h <;> simp [h]
      rw [if_pos h2, if_pos h2', h2', unl_false]
    · have h2' : ¬ (inR d.kind 1 3 && !foreignL d) = false := by
        intro h
        rw [Bool.and_eq_false_iff] at h
        exact h2 (by rcases h with h | h; exact .inl h; exact .inr (by simpa using h))
      rw [if_neg h2, if_neg h2']
      by_cases h3 : inR d.round 1 1000000000 = false
      · rw [if_pos h3, if_pos h3, h3, unl_false]
      · rw [if_neg h3, if_neg h3]
        by_cases h4 : inR d.price 0 1000000 = false
        · rw [if_pos h4, if_pos h4, h4, unl_false]
        · rw [if_neg h4, if_neg h4]
          by_cases h5 : 40 < d.barred.length
          · simp [h5]
          · by_cases h6 : rep d.barred = true
            · simp [h5, h6]
            · simp only [h5, h6, if_false, ne_eq, not_true_eq_false, Bool.false_eq_true]
              have hk : d.kind = 1 ∨ d.kind = 2 ∨ d.kind = 3 := by
                have hin : inR d.kind 1 3 = true := by
                  cases h : inR d.kind 1 3
                  · exact absurd (.inl h) h2
                  · rfl
                unfold inR at hin
                simp only [Bool.and_eq_true, decide_eq_true_eq] at hin
                omega
              rcases hk with hk | hk | hk
              · simp only [hk, if_true]
                by_cases a1 : inR d.pool 1 60 = false
                · simp [a1, unl_false]
                · by_cases a2 : inR d.pick 1 (if d.pool < 10 then d.pool else 10) = false
                  · simp [a1, a2, unl_false]
                  · by_cases a3 : tiersL d = 0 <;> simp [a1, a2, a3]
              · simp only [hk, if_true]
                by_cases a1 : placesL d = 0
                · by_cases a2 : inR d.cls 0 9 = false <;> simp [a1, a2, unl_false]
                · simp [a1]
              · simp only [hk, if_true]
                by_cases a1 : inR d.size 1 40 = false
                · simp [a1, unl_false]
                · by_cases a2 : quotasL d = 0 <;> simp [a1, a2]

set_option maxHeartbeats 4000000 in
set_option maxRecDepth 20000 in
theorem rcheck_any (w : World) (d : DrawL) (vt vp vq vb : Value) (h : DrawIn w d vt vp vq vb) : Calls Try.prog 14 #[dval d vt vp vq vb] w (CheckPost w (checkR d)) := by
  obtain ⟨Ab, cb, rfl, hA⟩ := h.b
  have hlen := h.ok.barred
  have HIN := Lib.hid h
  obtain ⟨nb, hnb⟩ : ∃ n, n = d.barred.length := ⟨_, rfl⟩
  rw [← hnb] at HIN hlen ⊢
  have HNB := Lib.hid hnb
  have HNAME := Lib.hid h.ok.name
  have HBAR := Lib.hid h.ok.bar
  have HR : Hid (checkR d = _) := Lib.hid (by unfold checkR; rw [← hnb])
  clear h hA hnb
  have hU : Kp w (w.alloc (.cells (dcells d vt vp vq (.slice Ab nb cb)).toArray 30)) := (Upd.refl _ w).alloc _
  have hrow : Row (w.alloc (.cells (dcells d vt vp vq (.slice Ab nb cb)).toArray 30)) w.heap.size 30 (dcells d vt vp vq (.slice Ab nb cb)) := Row.new _ _ _
  obtain ⟨w1, hw1⟩ : ∃ w1, w1 = w.alloc (.cells (dcells d vt vp vq (.slice Ab nb cb)).toArray 30) := ⟨_, rfl⟩
  rw [← hw1] at hU hrow
  have HK1 := Lib.hid hU
  have ROW1 := Lib.hid hrow
  have e0 : w1.cell? ⟨w.heap.size, 0, none⟩ = some (.string ⟨d.name.toArray⟩) := hrow.cell 0
  clear hU hrow
  simp only [dcells] at hw1
  go_enter Try.func14, Try.ntmps14
  go_wp2_with (fail)
  rw [← hw1]
  clear hw1
  cases h1 : isWord d.name with
  | false =>
    have H1 := Lib.hid h1
    replace HR := Lib.hid (HR.out.trans (if_pos h1))
    clear h1
    go_wp2_with (go_at_call 30; refine (rword_any w1 d.name HNAME.out).mono ?_; rintro e w2 ⟨rfl, hb⟩; rw [show isWord d.name = false from H1.out]; have HK2 : Hid (Kp w w2) := Lib.hid (HK1.out.trans hb); have ROW2 : Hid (Row w2 w.heap.size 30 (dcells d vt vp vq (.slice Ab nb cb))) := Lib.hid (ROW1.out.upd hb id); clear hb; have f0 : w2.cell? ⟨w.heap.size, 0, none⟩ = some (.string ⟨d.name.toArray⟩) := ROW2.out.cell 0; have f1 : w2.cell? ⟨w.heap.size, 1, none⟩ = some (.int .i64 d.kind) := ROW2.out.cell 1; have f2 : w2.cell? ⟨w.heap.size, 2, none⟩ = some (.int .i64 d.round) := ROW2.out.cell 2; have f3 : w2.cell? ⟨w.heap.size, 3, none⟩ = some (.int .i64 d.price) := ROW2.out.cell 3; have f4 : w2.cell? ⟨w.heap.size, 4, none⟩ = some (.int .i64 d.pool) := ROW2.out.cell 4; have f5 : w2.cell? ⟨w.heap.size, 5, none⟩ = some (.int .i64 d.pick) := ROW2.out.cell 5; have f6 : w2.cell? ⟨w.heap.size, 6, none⟩ = some (vt) := ROW2.out.cell 6; have f7 : w2.cell? ⟨w.heap.size, 7, none⟩ = some (.bool d.roll) := ROW2.out.cell 7; have f8 : w2.cell? ⟨w.heap.size, 8, none⟩ = some (vp) := ROW2.out.cell 8; have f9 : w2.cell? ⟨w.heap.size, 9, none⟩ = some (.int .i64 d.cls) := ROW2.out.cell 9; have f10 : w2.cell? ⟨w.heap.size, 10, none⟩ = some (.int .i64 d.size) := ROW2.out.cell 10; have f11 : w2.cell? ⟨w.heap.size, 11, none⟩ = some (vq) := ROW2.out.cell 11; have f12 : w2.cell? ⟨w.heap.size, 12, none⟩ = some ((.slice Ab nb cb)) := ROW2.out.cell 12)
    go_ret2
    exact ⟨by rw [HR.out]; rfl, HK2.out⟩
  | true =>
    have H1 := Lib.hid h1
    replace HR := Lib.hid (HR.out.trans (if_neg (by rw [h1]; decide)))
    clear h1
    go_wp2_with (go_at_call 30; refine (rword_any w1 d.name HNAME.out).mono ?_; rintro e w2 ⟨rfl, hb⟩; rw [show isWord d.name = true from H1.out]; have HK2 : Hid (Kp w w2) := Lib.hid (HK1.out.trans hb); have ROW2 : Hid (Row w2 w.heap.size 30 (dcells d vt vp vq (.slice Ab nb cb))) := Lib.hid (ROW1.out.upd hb id); clear hb; have f0 : w2.cell? ⟨w.heap.size, 0, none⟩ = some (.string ⟨d.name.toArray⟩) := ROW2.out.cell 0; have f1 : w2.cell? ⟨w.heap.size, 1, none⟩ = some (.int .i64 d.kind) := ROW2.out.cell 1; have f2 : w2.cell? ⟨w.heap.size, 2, none⟩ = some (.int .i64 d.round) := ROW2.out.cell 2; have f3 : w2.cell? ⟨w.heap.size, 3, none⟩ = some (.int .i64 d.price) := ROW2.out.cell 3; have f4 : w2.cell? ⟨w.heap.size, 4, none⟩ = some (.int .i64 d.pool) := ROW2.out.cell 4; have f5 : w2.cell? ⟨w.heap.size, 5, none⟩ = some (.int .i64 d.pick) := ROW2.out.cell 5; have f6 : w2.cell? ⟨w.heap.size, 6, none⟩ = some (vt) := ROW2.out.cell 6; have f7 : w2.cell? ⟨w.heap.size, 7, none⟩ = some (.bool d.roll) := ROW2.out.cell 7; have f8 : w2.cell? ⟨w.heap.size, 8, none⟩ = some (vp) := ROW2.out.cell 8; have f9 : w2.cell? ⟨w.heap.size, 9, none⟩ = some (.int .i64 d.cls) := ROW2.out.cell 9; have f10 : w2.cell? ⟨w.heap.size, 10, none⟩ = some (.int .i64 d.size) := ROW2.out.cell 10; have f11 : w2.cell? ⟨w.heap.size, 11, none⟩ = some (vq) := ROW2.out.cell 11; have f12 : w2.cell? ⟨w.heap.size, 12, none⟩ = some ((.slice Ab nb cb)) := ROW2.out.cell 12)
    clear e0
    cases h2 : inR d.kind 1 3 with
    | false =>
      have H2 := Lib.hid h2
      replace HR := Lib.hid (HR.out.trans (if_pos (.inl h2)))
      clear h2
      go_wp2_with (go_at_call 31; refine (rwithin_any _ _ _ _).mono ?_; rintro e wa ⟨rfl, rfl⟩; rw [show inR d.kind 1 3 = false from H2.out])
      go_ret2
      exact ⟨by rw [HR.out]; rfl, HK2.out⟩
    | true =>
      have H2 := Lib.hid h2
      clear h2
      have hc := foreign_any w2 d vt vp vq (.slice Ab nb cb) (HIN.out.kp HK2.out)
      cases h3 : foreignL d with
      | true =>
        have H3 := Lib.hid h3
        replace HR := Lib.hid (HR.out.trans (if_pos (.inr h3)))
        rw [h3] at hc
        have HC := Lib.hid hc
        clear h3 hc
        go_wp2_with (first
          | (go_at_call 31; refine (rwithin_any _ _ _ _).mono ?_; rintro e wa ⟨rfl, rfl⟩; rw [show inR d.kind 1 3 = true from H2.out])
          | (go_at_call 32; refine HC.out.mono ?_; rintro e w3 ⟨rfl, hb⟩; have HK3 : Hid (Kp w w3) := Lib.hid (HK2.out.trans hb); clear hb))
        go_ret2
        exact ⟨by rw [HR.out]; rfl, HK3.out⟩
      | false =>
        have H3 := Lib.hid h3
        replace HR := Lib.hid (HR.out.trans (if_neg (by rw [H2.out, h3]; decide)))
        rw [h3] at hc
        have HC := Lib.hid hc
        clear h3 hc
        go_wp2_with (first
          | (go_at_call 31; refine (rwithin_any _ _ _ _).mono ?_; rintro e wa ⟨rfl, rfl⟩; rw [show inR d.kind 1 3 = true from H2.out])
          | (go_at_call 32; refine HC.out.mono ?_; rintro e w3 ⟨rfl, hb⟩; have HK3 : Hid (Kp w w3) := Lib.hid (HK2.out.trans hb); have ROW3 : Hid (Row w3 w.heap.size 30 (dcells d vt vp vq (.slice Ab nb cb))) := Lib.hid (ROW2.out.upd hb id); clear hb; have g2 : w3.cell? ⟨w.heap.size, 2, none⟩ = some (.int .i64 d.round) := ROW3.out.cell 2; have g3 : w3.cell? ⟨w.heap.size, 3, none⟩ = some (.int .i64 d.price) := ROW3.out.cell 3; have g12 : w3.cell? ⟨w.heap.size, 12, none⟩ = some ((.slice Ab nb cb)) := ROW3.out.cell 12))
        clear f0 f1 f2 f3 f4 f5 f6 f7 f8 f9 f10 f11 f12
        cases h4 : inR d.round 1 1000000000 with
        | false =>
          have H4 := Lib.hid h4
          replace HR := Lib.hid (HR.out.trans (if_pos h4))
          clear h4
          go_wp2_with (first
            | (go_at_call 31; refine (rwithin_any _ _ _ _).mono ?_; rintro e wa ⟨rfl, rfl⟩; rw [show inR d.round 1 1000000000 = false from H4.out]))
          go_ret2
          exact ⟨by rw [HR.out]; rfl, HK3.out⟩
        | true =>
          have H4 := Lib.hid h4
          replace HR := Lib.hid (HR.out.trans (if_neg (by rw [h4]; decide)))
          clear h4
          go_wp2_with (first
            | (go_at_call 31; refine (rwithin_any _ _ _ _).mono ?_; rintro e wa ⟨rfl, rfl⟩; rw [show inR d.round 1 1000000000 = true from H4.out]))
          have hc := same_any w3 (.slice Ab nb cb) d.barred (HIN.out.kp HK3.out).b (by have := HNB.out; omega)
          cases h5 : inR d.price 0 1000000 with
          | false =>
            have H5 := Lib.hid h5
            replace HR := Lib.hid (HR.out.trans (if_pos h5))
            clear h5 hc
            go_wp2_with (go_at_call 31; refine (rwithin_any _ _ _ _).mono ?_; rintro e wa ⟨rfl, rfl⟩; rw [show inR d.price 0 1000000 = false from H5.out])
            go_ret2
            exact ⟨by rw [HR.out]; rfl, HK3.out⟩
          | true =>
            have H5 := Lib.hid h5
            replace HR := Lib.hid (HR.out.trans (if_neg (by rw [h5]; decide)))
            clear h5
            by_cases h6 : 40 < nb
            · have h6i : 40 < (nb : Int) := by omega
              replace HR := Lib.hid (HR.out.trans (if_pos h6))
              clear hc
              go_wp2_with (go_at_call 31; refine (rwithin_any _ _ _ _).mono ?_; rintro e wa ⟨rfl, rfl⟩; rw [show inR d.price 0 1000000 = true from H5.out])
              go_ret2
              exact ⟨by rw [HR.out]; rfl, HK3.out⟩
            · have h6i : ¬ 40 < (nb : Int) := by omega
              replace HR := Lib.hid (HR.out.trans (if_neg h6))
              cases h7 : rep d.barred with
              | true =>
                replace HR := Lib.hid (HR.out.trans (if_pos h7))
                rw [h7] at hc
                have HC := Lib.hid hc
                clear h7 hc
                go_wp2_with (first
                  | (go_at_call 31; refine (rwithin_any _ _ _ _).mono ?_; rintro e wa ⟨rfl, rfl⟩; rw [show inR d.price 0 1000000 = true from H5.out])
                  | (go_at_call 33; refine HC.out.mono ?_; rintro e w4 ⟨rfl, hb⟩; have HK4 : Hid (Kp w w4) := Lib.hid (HK3.out.trans hb); clear hb))
                go_ret2
                exact ⟨by rw [HR.out]; rfl, HK4.out⟩
              | false =>
                replace HR := Lib.hid (HR.out.trans (if_neg (by rw [h7]; decide)))
                rw [h7] at hc
                have HC := Lib.hid hc
                clear h7 hc
                by_cases hk1 : d.kind = 1
                · replace HR := Lib.hid (HR.out.trans (if_pos hk1))
                  have HKD := Lib.hid hk1
                  have kk1 : (d.kind == 1) = true := by simpa using hk1
                  clear hk1
                  go_wp2_with (first
                    | (go_at_call 31; refine (rwithin_any _ _ _ _).mono ?_; rintro e wa ⟨rfl, rfl⟩; rw [show inR d.price 0 1000000 = true from H5.out]) | (go_at_call 33; refine HC.out.mono ?_; rintro e w4 ⟨rfl, hb⟩; have HK4 : Hid (Kp w w4) := Lib.hid (HK3.out.trans hb); have ROW4 : Hid (Row w4 w.heap.size 30 (dcells d vt vp vq (.slice Ab nb cb))) := Lib.hid (ROW3.out.upd hb id); clear hb; have k0 : w4.cell? ⟨w.heap.size, 0, none⟩ = some (.string ⟨d.name.toArray⟩) := ROW4.out.cell 0; have k1 : w4.cell? ⟨w.heap.size, 1, none⟩ = some (.int .i64 d.kind) := ROW4.out.cell 1; have k2 : w4.cell? ⟨w.heap.size, 2, none⟩ = some (.int .i64 d.round) := ROW4.out.cell 2; have k3 : w4.cell? ⟨w.heap.size, 3, none⟩ = some (.int .i64 d.price) := ROW4.out.cell 3; have k4 : w4.cell? ⟨w.heap.size, 4, none⟩ = some (.int .i64 d.pool) := ROW4.out.cell 4; have k5 : w4.cell? ⟨w.heap.size, 5, none⟩ = some (.int .i64 d.pick) := ROW4.out.cell 5; have k6 : w4.cell? ⟨w.heap.size, 6, none⟩ = some (vt) := ROW4.out.cell 6; have k7 : w4.cell? ⟨w.heap.size, 7, none⟩ = some (.bool d.roll) := ROW4.out.cell 7; have k8 : w4.cell? ⟨w.heap.size, 8, none⟩ = some (vp) := ROW4.out.cell 8; have k9 : w4.cell? ⟨w.heap.size, 9, none⟩ = some (.int .i64 d.cls) := ROW4.out.cell 9; have k10 : w4.cell? ⟨w.heap.size, 10, none⟩ = some (.int .i64 d.size) := ROW4.out.cell 10; have k11 : w4.cell? ⟨w.heap.size, 11, none⟩ = some (vq) := ROW4.out.cell 11; have k12 : w4.cell? ⟨w.heap.size, 12, none⟩ = some ((.slice Ab nb cb)) := ROW4.out.cell 12))
                  clear kk1
                  obtain ⟨m, hm⟩ : ∃ m, (if d.pool < 10 then d.pool else 10) = m := ⟨_, rfl⟩
                  rw [hm] at HR
                  have HM := Lib.hid hm
                  clear hm
                  cases h8 : inR d.pool 1 60 with
                  | false =>
                    have H8 := Lib.hid h8
                    replace HR := Lib.hid (HR.out.trans (if_pos h8))
                    clear h8
                    go_wp2_with (first
                      | (go_at_call 31; refine (rwithin_any _ _ _ _).mono ?_; rintro e wa ⟨rfl, rfl⟩; rw [show inR d.pool 1 60 = false from H8.out]) | (show wpList _ _ _ (⟨some 46, _, _, _, _, _⟩ :: _) _ _; refine wpList_min rfl _ _ _ rfl rfl rfl HM.out ?_))
                    go_ret2
                    exact ⟨by rw [HR.out]; rfl, HK4.out⟩
                  | true =>
                    have H8 := Lib.hid h8
                    replace HR := Lib.hid (HR.out.trans (if_neg (by rw [h8]; decide)))
                    clear h8
                    go_wp2_with (first
                      | (go_at_call 31; refine (rwithin_any _ _ _ _).mono ?_; rintro e wa ⟨rfl, rfl⟩; rw [show inR d.pool 1 60 = true from H8.out]) | (show wpList _ _ _ (⟨some 46, _, _, _, _, _⟩ :: _) _ _; refine wpList_min rfl _ _ _ rfl rfl rfl HM.out ?_))
                    cases h9 : inR d.pick 1 m with
                    | false =>
                      have H9 := Lib.hid h9
                      replace HR := Lib.hid (HR.out.trans (if_pos h9))
                      clear h9
                      go_wp2_with (first
                        | (go_at_call 31; refine (rwithin_any _ _ _ _).mono ?_; rintro e wa ⟨rfl, rfl⟩; rw [show inR d.pick 1 m = false from H9.out]) | (show wpList _ _ _ (⟨some 46, _, _, _, _, _⟩ :: _) _ _; refine wpList_min rfl _ _ _ rfl rfl rfl HM.out ?_))
                      go_ret2
                      exact ⟨by rw [HR.out]; rfl, HK4.out⟩
                    | true =>
                      have H9 := Lib.hid h9
                      replace HR := Lib.hid (HR.out.trans (if_neg (by rw [h9]; decide)))
                      clear h9
                      go_wp2_with (first
                        | (go_at_call 31; refine (rwithin_any _ _ _ _).mono ?_; rintro e wa ⟨rfl, rfl⟩; rw [show inR d.pick 1 m = true from H9.out]) | (show wpList _ _ _ (⟨some 46, _, _, _, _, _⟩ :: _) _ _; refine wpList_min rfl _ _ _ rfl rfl rfl HM.out ?_))
                      obtain ⟨ev, hev⟩ : ∃ v, tiersL d = v := ⟨_, rfl⟩
                      have HE1 := Lib.hid hev
                      rw [hev] at HR
                      clear hev
                      by_cases he : ev = 0
                      · subst he
                        replace HR := Lib.hid (HR.out.trans (if_neg (by simp)))
                        go_wp2_with (go_at_call 34; refine (rtiers_any w4 d vt vp vq (.slice Ab nb cb) (HIN.out.kp HK4.out)).mono ?_; rintro e w5 ⟨rfl, hb⟩; have HK5 : Hid (Kp w w5) := Lib.hid (HK4.out.trans hb); have ROW5 : Hid (Row w5 w.heap.size 30 (dcells d vt vp vq (.slice Ab nb cb))) := Lib.hid (ROW4.out.upd hb id); clear hb; simp only [HE1.out]; have k9' : w5.cell? ⟨w.heap.size, 9, none⟩ = some (.int .i64 d.cls) := ROW5.out.cell 9)
                        go_ret2
                        exact ⟨by rw [HR.out]; rfl, HK5.out⟩
                      · have hne : (ev != 0) = true := by simpa using he
                        replace HR := Lib.hid (HR.out.trans (if_pos he))
                        go_wp2_with (go_at_call 34; refine (rtiers_any w4 d vt vp vq (.slice Ab nb cb) (HIN.out.kp HK4.out)).mono ?_; rintro e w5 ⟨rfl, hb⟩; have HK5 : Hid (Kp w w5) := Lib.hid (HK4.out.trans hb); have ROW5 : Hid (Row w5 w.heap.size 30 (dcells d vt vp vq (.slice Ab nb cb))) := Lib.hid (ROW4.out.upd hb id); clear hb; simp only [HE1.out]; have k9' : w5.cell? ⟨w.heap.size, 9, none⟩ = some (.int .i64 d.cls) := ROW5.out.cell 9)
                        go_ret2
                        exact ⟨by rw [HR.out]; rfl, HK5.out⟩
                · replace HR := Lib.hid (HR.out.trans (if_neg hk1))
                  by_cases hk2 : d.kind = 2
                  · replace HR := Lib.hid (HR.out.trans (if_pos hk2))
                    have kk1 : (d.kind == 1) = false := by simpa using hk1
                    have kk2 : (d.kind == 2) = true := by simpa using hk2
                    clear hk1 hk2
                    obtain ⟨ev, hev⟩ : ∃ v, placesL d = v := ⟨_, rfl⟩
                    have HE2 := Lib.hid hev
                    rw [hev] at HR
                    clear hev
                    by_cases he : ev = 0
                    · subst he
                      replace HR := Lib.hid (HR.out.trans (if_neg (by simp)))
                      cases h9 : inR d.cls 0 9 with
                      | false =>
                        have H9 := Lib.hid h9
                        replace HR := Lib.hid (HR.out.trans (if_pos h9))
                        clear h9
                        go_wp2_with (first
                          | (go_at_call 31; refine (rwithin_any _ _ _ _).mono ?_; rintro e wa ⟨rfl, rfl⟩; rw [show inR d.price 0 1000000 = true from H5.out]) | (go_at_call 33; refine HC.out.mono ?_; rintro e w4 ⟨rfl, hb⟩; have HK4 : Hid (Kp w w4) := Lib.hid (HK3.out.trans hb); have ROW4 : Hid (Row w4 w.heap.size 30 (dcells d vt vp vq (.slice Ab nb cb))) := Lib.hid (ROW3.out.upd hb id); clear hb; have k0 : w4.cell? ⟨w.heap.size, 0, none⟩ = some (.string ⟨d.name.toArray⟩) := ROW4.out.cell 0; have k1 : w4.cell? ⟨w.heap.size, 1, none⟩ = some (.int .i64 d.kind) := ROW4.out.cell 1; have k2 : w4.cell? ⟨w.heap.size, 2, none⟩ = some (.int .i64 d.round) := ROW4.out.cell 2; have k3 : w4.cell? ⟨w.heap.size, 3, none⟩ = some (.int .i64 d.price) := ROW4.out.cell 3; have k4 : w4.cell? ⟨w.heap.size, 4, none⟩ = some (.int .i64 d.pool) := ROW4.out.cell 4; have k5 : w4.cell? ⟨w.heap.size, 5, none⟩ = some (.int .i64 d.pick) := ROW4.out.cell 5; have k6 : w4.cell? ⟨w.heap.size, 6, none⟩ = some (vt) := ROW4.out.cell 6; have k7 : w4.cell? ⟨w.heap.size, 7, none⟩ = some (.bool d.roll) := ROW4.out.cell 7; have k8 : w4.cell? ⟨w.heap.size, 8, none⟩ = some (vp) := ROW4.out.cell 8; have k9 : w4.cell? ⟨w.heap.size, 9, none⟩ = some (.int .i64 d.cls) := ROW4.out.cell 9; have k10 : w4.cell? ⟨w.heap.size, 10, none⟩ = some (.int .i64 d.size) := ROW4.out.cell 10; have k11 : w4.cell? ⟨w.heap.size, 11, none⟩ = some (vq) := ROW4.out.cell 11; have k12 : w4.cell? ⟨w.heap.size, 12, none⟩ = some ((.slice Ab nb cb)) := ROW4.out.cell 12)
                          | (go_at_call 35; refine (rplaces_any w4 d vt vp vq (.slice Ab nb cb) (HIN.out.kp HK4.out)).mono ?_; rintro e w5 ⟨rfl, hb⟩; have HK5 : Hid (Kp w w5) := Lib.hid (HK4.out.trans hb); have ROW5 : Hid (Row w5 w.heap.size 30 (dcells d vt vp vq (.slice Ab nb cb))) := Lib.hid (ROW4.out.upd hb id); clear hb; simp only [HE2.out]; have k9' : w5.cell? ⟨w.heap.size, 9, none⟩ = some (.int .i64 d.cls) := ROW5.out.cell 9)
                          | (go_at_call 31; refine (rwithin_any _ _ _ _).mono ?_; rintro e wa ⟨rfl, rfl⟩; rw [show inR d.cls 0 9 = false from H9.out]))
                        go_ret2
                        exact ⟨by rw [HR.out]; rfl, HK5.out⟩
                      | true =>
                        have H9 := Lib.hid h9
                        replace HR := Lib.hid (HR.out.trans (if_neg (by rw [h9]; decide)))
                        clear h9
                        go_wp2_with (first
                          | (go_at_call 31; refine (rwithin_any _ _ _ _).mono ?_; rintro e wa ⟨rfl, rfl⟩; rw [show inR d.price 0 1000000 = true from H5.out]) | (go_at_call 33; refine HC.out.mono ?_; rintro e w4 ⟨rfl, hb⟩; have HK4 : Hid (Kp w w4) := Lib.hid (HK3.out.trans hb); have ROW4 : Hid (Row w4 w.heap.size 30 (dcells d vt vp vq (.slice Ab nb cb))) := Lib.hid (ROW3.out.upd hb id); clear hb; have k0 : w4.cell? ⟨w.heap.size, 0, none⟩ = some (.string ⟨d.name.toArray⟩) := ROW4.out.cell 0; have k1 : w4.cell? ⟨w.heap.size, 1, none⟩ = some (.int .i64 d.kind) := ROW4.out.cell 1; have k2 : w4.cell? ⟨w.heap.size, 2, none⟩ = some (.int .i64 d.round) := ROW4.out.cell 2; have k3 : w4.cell? ⟨w.heap.size, 3, none⟩ = some (.int .i64 d.price) := ROW4.out.cell 3; have k4 : w4.cell? ⟨w.heap.size, 4, none⟩ = some (.int .i64 d.pool) := ROW4.out.cell 4; have k5 : w4.cell? ⟨w.heap.size, 5, none⟩ = some (.int .i64 d.pick) := ROW4.out.cell 5; have k6 : w4.cell? ⟨w.heap.size, 6, none⟩ = some (vt) := ROW4.out.cell 6; have k7 : w4.cell? ⟨w.heap.size, 7, none⟩ = some (.bool d.roll) := ROW4.out.cell 7; have k8 : w4.cell? ⟨w.heap.size, 8, none⟩ = some (vp) := ROW4.out.cell 8; have k9 : w4.cell? ⟨w.heap.size, 9, none⟩ = some (.int .i64 d.cls) := ROW4.out.cell 9; have k10 : w4.cell? ⟨w.heap.size, 10, none⟩ = some (.int .i64 d.size) := ROW4.out.cell 10; have k11 : w4.cell? ⟨w.heap.size, 11, none⟩ = some (vq) := ROW4.out.cell 11; have k12 : w4.cell? ⟨w.heap.size, 12, none⟩ = some ((.slice Ab nb cb)) := ROW4.out.cell 12)
                          | (go_at_call 35; refine (rplaces_any w4 d vt vp vq (.slice Ab nb cb) (HIN.out.kp HK4.out)).mono ?_; rintro e w5 ⟨rfl, hb⟩; have HK5 : Hid (Kp w w5) := Lib.hid (HK4.out.trans hb); have ROW5 : Hid (Row w5 w.heap.size 30 (dcells d vt vp vq (.slice Ab nb cb))) := Lib.hid (ROW4.out.upd hb id); clear hb; simp only [HE2.out]; have k9' : w5.cell? ⟨w.heap.size, 9, none⟩ = some (.int .i64 d.cls) := ROW5.out.cell 9)
                          | (go_at_call 31; refine (rwithin_any _ _ _ _).mono ?_; rintro e wa ⟨rfl, rfl⟩; rw [show inR d.cls 0 9 = true from H9.out]))
                        go_ret2
                        exact ⟨by rw [HR.out]; rfl, HK5.out⟩
                    · have hne : (ev != 0) = true := by simpa using he
                      replace HR := Lib.hid (HR.out.trans (if_pos he))
                      go_wp2_with (first
                        | (go_at_call 31; refine (rwithin_any _ _ _ _).mono ?_; rintro e wa ⟨rfl, rfl⟩; rw [show inR d.price 0 1000000 = true from H5.out]) | (go_at_call 33; refine HC.out.mono ?_; rintro e w4 ⟨rfl, hb⟩; have HK4 : Hid (Kp w w4) := Lib.hid (HK3.out.trans hb); have ROW4 : Hid (Row w4 w.heap.size 30 (dcells d vt vp vq (.slice Ab nb cb))) := Lib.hid (ROW3.out.upd hb id); clear hb; have k0 : w4.cell? ⟨w.heap.size, 0, none⟩ = some (.string ⟨d.name.toArray⟩) := ROW4.out.cell 0; have k1 : w4.cell? ⟨w.heap.size, 1, none⟩ = some (.int .i64 d.kind) := ROW4.out.cell 1; have k2 : w4.cell? ⟨w.heap.size, 2, none⟩ = some (.int .i64 d.round) := ROW4.out.cell 2; have k3 : w4.cell? ⟨w.heap.size, 3, none⟩ = some (.int .i64 d.price) := ROW4.out.cell 3; have k4 : w4.cell? ⟨w.heap.size, 4, none⟩ = some (.int .i64 d.pool) := ROW4.out.cell 4; have k5 : w4.cell? ⟨w.heap.size, 5, none⟩ = some (.int .i64 d.pick) := ROW4.out.cell 5; have k6 : w4.cell? ⟨w.heap.size, 6, none⟩ = some (vt) := ROW4.out.cell 6; have k7 : w4.cell? ⟨w.heap.size, 7, none⟩ = some (.bool d.roll) := ROW4.out.cell 7; have k8 : w4.cell? ⟨w.heap.size, 8, none⟩ = some (vp) := ROW4.out.cell 8; have k9 : w4.cell? ⟨w.heap.size, 9, none⟩ = some (.int .i64 d.cls) := ROW4.out.cell 9; have k10 : w4.cell? ⟨w.heap.size, 10, none⟩ = some (.int .i64 d.size) := ROW4.out.cell 10; have k11 : w4.cell? ⟨w.heap.size, 11, none⟩ = some (vq) := ROW4.out.cell 11; have k12 : w4.cell? ⟨w.heap.size, 12, none⟩ = some ((.slice Ab nb cb)) := ROW4.out.cell 12)
                        | (go_at_call 35; refine (rplaces_any w4 d vt vp vq (.slice Ab nb cb) (HIN.out.kp HK4.out)).mono ?_; rintro e w5 ⟨rfl, hb⟩; have HK5 : Hid (Kp w w5) := Lib.hid (HK4.out.trans hb); have ROW5 : Hid (Row w5 w.heap.size 30 (dcells d vt vp vq (.slice Ab nb cb))) := Lib.hid (ROW4.out.upd hb id); clear hb; simp only [HE2.out]; have k9' : w5.cell? ⟨w.heap.size, 9, none⟩ = some (.int .i64 d.cls) := ROW5.out.cell 9))
                      go_ret2
                      exact ⟨by rw [HR.out]; rfl, HK5.out⟩
                  · replace HR := Lib.hid (HR.out.trans (if_neg hk2))
                    have hk3 : d.kind = 3 := by
                      have hin := H2.out
                      unfold inR at hin
                      simp only [Bool.and_eq_true, decide_eq_true_eq] at hin
                      omega
                    replace HR := Lib.hid (HR.out.trans (if_pos hk3))
                    have kk1 : (d.kind == 1) = false := by simpa using hk1
                    have kk2 : (d.kind == 2) = false := by simpa using hk2
                    have kk3 : (d.kind == 3) = true := by simpa using hk3
                    clear hk1 hk2 hk3
                    cases h9 : inR d.size 1 40 with
                    | false =>
                      have H9 := Lib.hid h9
                      replace HR := Lib.hid (HR.out.trans (if_pos h9))
                      clear h9
                      go_wp2_with (first
                        | (go_at_call 31; refine (rwithin_any _ _ _ _).mono ?_; rintro e wa ⟨rfl, rfl⟩; rw [show inR d.price 0 1000000 = true from H5.out]) | (go_at_call 33; refine HC.out.mono ?_; rintro e w4 ⟨rfl, hb⟩; have HK4 : Hid (Kp w w4) := Lib.hid (HK3.out.trans hb); have ROW4 : Hid (Row w4 w.heap.size 30 (dcells d vt vp vq (.slice Ab nb cb))) := Lib.hid (ROW3.out.upd hb id); clear hb; have k0 : w4.cell? ⟨w.heap.size, 0, none⟩ = some (.string ⟨d.name.toArray⟩) := ROW4.out.cell 0; have k1 : w4.cell? ⟨w.heap.size, 1, none⟩ = some (.int .i64 d.kind) := ROW4.out.cell 1; have k2 : w4.cell? ⟨w.heap.size, 2, none⟩ = some (.int .i64 d.round) := ROW4.out.cell 2; have k3 : w4.cell? ⟨w.heap.size, 3, none⟩ = some (.int .i64 d.price) := ROW4.out.cell 3; have k4 : w4.cell? ⟨w.heap.size, 4, none⟩ = some (.int .i64 d.pool) := ROW4.out.cell 4; have k5 : w4.cell? ⟨w.heap.size, 5, none⟩ = some (.int .i64 d.pick) := ROW4.out.cell 5; have k6 : w4.cell? ⟨w.heap.size, 6, none⟩ = some (vt) := ROW4.out.cell 6; have k7 : w4.cell? ⟨w.heap.size, 7, none⟩ = some (.bool d.roll) := ROW4.out.cell 7; have k8 : w4.cell? ⟨w.heap.size, 8, none⟩ = some (vp) := ROW4.out.cell 8; have k9 : w4.cell? ⟨w.heap.size, 9, none⟩ = some (.int .i64 d.cls) := ROW4.out.cell 9; have k10 : w4.cell? ⟨w.heap.size, 10, none⟩ = some (.int .i64 d.size) := ROW4.out.cell 10; have k11 : w4.cell? ⟨w.heap.size, 11, none⟩ = some (vq) := ROW4.out.cell 11; have k12 : w4.cell? ⟨w.heap.size, 12, none⟩ = some ((.slice Ab nb cb)) := ROW4.out.cell 12)
                        | (go_at_call 31; refine (rwithin_any _ _ _ _).mono ?_; rintro e wa ⟨rfl, rfl⟩; rw [show inR d.size 1 40 = false from H9.out]))
                      go_ret2
                      exact ⟨by rw [HR.out]; rfl, HK4.out⟩
                    | true =>
                      have H9 := Lib.hid h9
                      replace HR := Lib.hid (HR.out.trans (if_neg (by rw [h9]; decide)))
                      clear h9
                      obtain ⟨ev, hev⟩ : ∃ v, quotasL d = v := ⟨_, rfl⟩
                      have HE3 := Lib.hid hev
                      rw [hev] at HR
                      clear hev
                      by_cases he : ev = 0
                      · subst he
                        replace HR := Lib.hid (HR.out.trans (if_neg (by simp)))
                        go_wp2_with (first
                          | (go_at_call 31; refine (rwithin_any _ _ _ _).mono ?_; rintro e wa ⟨rfl, rfl⟩; rw [show inR d.price 0 1000000 = true from H5.out]) | (go_at_call 33; refine HC.out.mono ?_; rintro e w4 ⟨rfl, hb⟩; have HK4 : Hid (Kp w w4) := Lib.hid (HK3.out.trans hb); have ROW4 : Hid (Row w4 w.heap.size 30 (dcells d vt vp vq (.slice Ab nb cb))) := Lib.hid (ROW3.out.upd hb id); clear hb; have k0 : w4.cell? ⟨w.heap.size, 0, none⟩ = some (.string ⟨d.name.toArray⟩) := ROW4.out.cell 0; have k1 : w4.cell? ⟨w.heap.size, 1, none⟩ = some (.int .i64 d.kind) := ROW4.out.cell 1; have k2 : w4.cell? ⟨w.heap.size, 2, none⟩ = some (.int .i64 d.round) := ROW4.out.cell 2; have k3 : w4.cell? ⟨w.heap.size, 3, none⟩ = some (.int .i64 d.price) := ROW4.out.cell 3; have k4 : w4.cell? ⟨w.heap.size, 4, none⟩ = some (.int .i64 d.pool) := ROW4.out.cell 4; have k5 : w4.cell? ⟨w.heap.size, 5, none⟩ = some (.int .i64 d.pick) := ROW4.out.cell 5; have k6 : w4.cell? ⟨w.heap.size, 6, none⟩ = some (vt) := ROW4.out.cell 6; have k7 : w4.cell? ⟨w.heap.size, 7, none⟩ = some (.bool d.roll) := ROW4.out.cell 7; have k8 : w4.cell? ⟨w.heap.size, 8, none⟩ = some (vp) := ROW4.out.cell 8; have k9 : w4.cell? ⟨w.heap.size, 9, none⟩ = some (.int .i64 d.cls) := ROW4.out.cell 9; have k10 : w4.cell? ⟨w.heap.size, 10, none⟩ = some (.int .i64 d.size) := ROW4.out.cell 10; have k11 : w4.cell? ⟨w.heap.size, 11, none⟩ = some (vq) := ROW4.out.cell 11; have k12 : w4.cell? ⟨w.heap.size, 12, none⟩ = some ((.slice Ab nb cb)) := ROW4.out.cell 12)
                          | (go_at_call 31; refine (rwithin_any _ _ _ _).mono ?_; rintro e wa ⟨rfl, rfl⟩; rw [show inR d.size 1 40 = true from H9.out])
                          | (go_at_call 36; refine (rquotas_any w4 d vt vp vq (.slice Ab nb cb) (HIN.out.kp HK4.out)).mono ?_; rintro e w5 ⟨rfl, hb⟩; have HK5 : Hid (Kp w w5) := Lib.hid (HK4.out.trans hb); have ROW5 : Hid (Row w5 w.heap.size 30 (dcells d vt vp vq (.slice Ab nb cb))) := Lib.hid (ROW4.out.upd hb id); clear hb; simp only [HE3.out]; have k9' : w5.cell? ⟨w.heap.size, 9, none⟩ = some (.int .i64 d.cls) := ROW5.out.cell 9))
                        go_ret2
                        exact ⟨by rw [HR.out]; rfl, HK5.out⟩
                      · have hne : (ev != 0) = true := by simpa using he
                        replace HR := Lib.hid (HR.out.trans (if_pos he))
                        go_wp2_with (first
                          | (go_at_call 31; refine (rwithin_any _ _ _ _).mono ?_; rintro e wa ⟨rfl, rfl⟩; rw [show inR d.price 0 1000000 = true from H5.out]) | (go_at_call 33; refine HC.out.mono ?_; rintro e w4 ⟨rfl, hb⟩; have HK4 : Hid (Kp w w4) := Lib.hid (HK3.out.trans hb); have ROW4 : Hid (Row w4 w.heap.size 30 (dcells d vt vp vq (.slice Ab nb cb))) := Lib.hid (ROW3.out.upd hb id); clear hb; have k0 : w4.cell? ⟨w.heap.size, 0, none⟩ = some (.string ⟨d.name.toArray⟩) := ROW4.out.cell 0; have k1 : w4.cell? ⟨w.heap.size, 1, none⟩ = some (.int .i64 d.kind) := ROW4.out.cell 1; have k2 : w4.cell? ⟨w.heap.size, 2, none⟩ = some (.int .i64 d.round) := ROW4.out.cell 2; have k3 : w4.cell? ⟨w.heap.size, 3, none⟩ = some (.int .i64 d.price) := ROW4.out.cell 3; have k4 : w4.cell? ⟨w.heap.size, 4, none⟩ = some (.int .i64 d.pool) := ROW4.out.cell 4; have k5 : w4.cell? ⟨w.heap.size, 5, none⟩ = some (.int .i64 d.pick) := ROW4.out.cell 5; have k6 : w4.cell? ⟨w.heap.size, 6, none⟩ = some (vt) := ROW4.out.cell 6; have k7 : w4.cell? ⟨w.heap.size, 7, none⟩ = some (.bool d.roll) := ROW4.out.cell 7; have k8 : w4.cell? ⟨w.heap.size, 8, none⟩ = some (vp) := ROW4.out.cell 8; have k9 : w4.cell? ⟨w.heap.size, 9, none⟩ = some (.int .i64 d.cls) := ROW4.out.cell 9; have k10 : w4.cell? ⟨w.heap.size, 10, none⟩ = some (.int .i64 d.size) := ROW4.out.cell 10; have k11 : w4.cell? ⟨w.heap.size, 11, none⟩ = some (vq) := ROW4.out.cell 11; have k12 : w4.cell? ⟨w.heap.size, 12, none⟩ = some ((.slice Ab nb cb)) := ROW4.out.cell 12)
                          | (go_at_call 31; refine (rwithin_any _ _ _ _).mono ?_; rintro e wa ⟨rfl, rfl⟩; rw [show inR d.size 1 40 = true from H9.out])
                          | (go_at_call 36; refine (rquotas_any w4 d vt vp vq (.slice Ab nb cb) (HIN.out.kp HK4.out)).mono ?_; rintro e w5 ⟨rfl, hb⟩; have HK5 : Hid (Kp w w5) := Lib.hid (HK4.out.trans hb); have ROW5 : Hid (Row w5 w.heap.size 30 (dcells d vt vp vq (.slice Ab nb cb))) := Lib.hid (ROW4.out.upd hb id); clear hb; simp only [HE3.out]; have k9' : w5.cell? ⟨w.heap.size, 9, none⟩ = some (.int .i64 d.cls) := ROW5.out.cell 9))
                        go_ret2
                        exact ⟨by rw [HR.out]; rfl, HK5.out⟩
end Go.Proofs.Ytaejnhgnacgheaa
