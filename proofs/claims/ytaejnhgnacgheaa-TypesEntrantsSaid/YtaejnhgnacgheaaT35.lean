/- the reference's has and wishes. -/
import Derived.Test.YtaejnhgnacgheaaT13
import Derived.Deep.CutRange
namespace Go.Proofs.Ytaejnhgnacgheaa
set_option linter.unusedVariables false
set_option linter.unusedSimpArgs false
open Go.RowKit

set_option maxHeartbeats 1000000 in
theorem has_any (w : World) (v : Value) (L : List Int) (h : Nums w v L) (hL : L.length ≤ 1000000000) (n : Int) : Calls Try.prog 44 #[v, .int .i64 n] w (Gives w (.bool (L.any fun y => decide (y = n)))) := by
  obtain ⟨A, c, rfl, hA⟩ := h
  have HA := Lib.hid hA
  have HT : Hid (∀ k, ∀ hk : k < L.length, L[k] = n → (L.any fun y => decide (y = n)) = true) := Lib.hid (fun k hk e => any_hit hk (by simpa using e))
  have HF : Hid ((∀ j, ∀ hj : j < L.length, ¬ L[j] = n) → (L.any fun y => decide (y = n)) = false) := Lib.hid (fun h => any_miss (fun j hj => by simpa using h j hj))
  obtain ⟨r, hr⟩ : ∃ r, r = L.any fun y => decide (y = n) := ⟨_, rfl⟩
  rw [← hr] at HT HF ⊢
  obtain ⟨nl, hnl⟩ : ∃ m, m = L.length := ⟨_, rfl⟩
  have HNL := Lib.hid hnl
  rw [← hnl]
  have hL2 : nl ≤ 1000000000 := by omega
  clear hA hr hnl hL
  go_enter Try.func44, Try.ntmps44
  go_wp2_with (fail)
  go_loopw [5] (fun v wr => ∃ k : Nat, v = .int .i64 k ∧ k ≤ nl ∧ Kp w wr ∧ ∀ j, ∀ hj : j < L.length, j < k → ¬ L[j] = n) (fun v _ => nl - (intOf v).toNat)
  case atStart => exact ⟨0, rfl, Nat.zero_le _, Upd.refl _ _, fun j hj h => by omega⟩
  case round =>
    obtain ⟨k, rfl, hk, hu, hall⟩ := hrel
    have HU := Lib.hid hu
    have HALL := Lib.hid hall
    clear hu hall
    have hk0 : (0 : Int) ≤ k := by omega
    have hk9 : (k : Int) ≤ 1000000000 := by omega
    by_cases hlt : k < nl
    · have hlti : (k : Int) < nl := by omega
      have hkl : k < L.length := by rw [← HNL.out]; exact hlt
      obtain ⟨g, o, eA, hc⟩ := (HA.out.upd HU.out).at1 hkl
      obtain ⟨x, hx⟩ : ∃ x, x = L[k] := ⟨_, rfl⟩
      rw [← hx] at hc
      subst eA
      have HX := Lib.hid hx
      by_cases hxn : x = n
      · have hb : (x == n) = true := by simpa using hxn
        have HXN := Lib.hid hxn
        clear hx hxn
        go_wp2_with (fail)
        go_ret
        exact ⟨by rw [HT.out k (by rw [← HNL.out]; exact hlt) (by rw [← HX.out]; exact HXN.out)]; rfl, HU.out⟩
      · have hb : (x == n) = false := by simpa using hxn
        have HXN := Lib.hid hxn
        clear hx hxn
        go_wp2_with (fail)
        go_roundw
        case rel => exact ⟨k + 1, by go_num, by omega, HU.out, fun j hj h => by
          rcases Nat.lt_or_eq_of_le (Nat.le_of_lt_succ h) with h1 | h1
          · exact HALL.out j hj h1
          · subst h1; rw [← HX.out]; exact HXN.out⟩
        case measure => simp [intOf]; omega
    · obtain rfl : k = nl := by omega
      go_wp2_with (fail)
      go_ret
      exact ⟨by rw [HF.out (fun j hj => HALL.out j hj (by rw [HNL.out]; exact hj))]; rfl, HU.out⟩
end Go.Proofs.Ytaejnhgnacgheaa
