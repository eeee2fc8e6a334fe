/- types and its reference: small functions. -/
import Derived.Test.YtaejnhgnacgheaaTbase
import Derived.Test.YtaejnhgnacgheaaRows
namespace Go.Proofs.Ytaejnhgnacgheaa
set_option linter.unusedVariables false
set_option linter.unusedSimpArgs false
open Go.RowKit

theorem within_any (w : World) (n a b : Int) : Calls Try.prog 42 #[.int .i64 n, .int .i64 a, .int .i64 b] w fun e w' => e = .returned (.bool (inR n a b)) ∧ w = w' := by
  by_cases h1 : a ≤ n
  · by_cases h2 : n ≤ b
    · go_enter Try.func42, Try.ntmps42
      go_wp2
      go_ret
      exact ⟨by simp [inR, h1, h2], rfl⟩
    · go_enter Try.func42, Try.ntmps42
      go_wp2
      go_ret
      exact ⟨by simp [inR, h1, h2], rfl⟩
  · go_enter Try.func42, Try.ntmps42
    go_wp2
    go_ret
    exact ⟨by simp only [inR, decide_eq_false (show ¬ a ≤ n by omega), Bool.false_and]; rfl, rfl⟩
theorem rwithin_any (w : World) (n a b : Int) : Calls Try.prog 31 #[.int .i64 n, .int .i64 a, .int .i64 b] w fun e w' => e = .returned (.bool (inR n a b)) ∧ w = w' := by
  by_cases h1 : a ≤ n
  · by_cases h2 : n ≤ b
    · go_enter Try.func31, Try.ntmps31
      go_wp2
      go_ret
      exact ⟨by simp [inR, h1, h2], rfl⟩
    · go_enter Try.func31, Try.ntmps31
      go_wp2
      go_ret
      exact ⟨by simp [inR, h1, h2], rfl⟩
  · go_enter Try.func31, Try.ntmps31
    go_wp2
    go_ret
    exact ⟨by simp only [inR, decide_eq_false (show ¬ a ≤ n by omega), Bool.false_and]; rfl, rfl⟩
theorem unless_any (w : World) (ok : Bool) (x : Int) : Calls Try.prog 41 #[.bool ok, .int .i64 x] w fun e w' => e = .returned (.int .i64 (unl ok x)) ∧ w = w' := by
  cases ok
  · go_enter Try.func41, Try.ntmps41
    go_wp2
    go_ret
    exact ⟨rfl, rfl⟩
  · go_enter Try.func41, Try.ntmps41
    go_wp2
    go_ret
    exact ⟨rfl, rfl⟩

theorem firstL_drop {L : List Int} {k : Nat} (hk : k < L.length) (h : L[k] = 0) : firstL (L.drop k) = firstL (L.drop (k + 1)) := by
  rw [List.drop_eq_getElem_cons hk]
  simp [firstL, h]
theorem firstL_hit {L : List Int} {k : Nat} (hk : k < L.length) (h : ¬ L[k] = 0) : firstL (L.drop k) = L[k] := by
  rw [List.drop_eq_getElem_cons hk]
  simp [firstL, h]
set_option maxHeartbeats 1000000 in
theorem first_any (w : World) (v : Value) (L : List Int) (h : Nums w v L) (hL : L.length ≤ maxLen) : Calls Try.prog 40 #[v] w (Gives w (.int .i64 (firstL L))) := by
  obtain ⟨A, c, rfl, hA⟩ := h
  unfold maxLen at hL
  have H := Lib.hid hA
  obtain ⟨n, hn⟩ : ∃ n, n = L.length := ⟨_, rfl⟩
  rw [← hn] at hL ⊢
  have HN := Lib.hid hn
  clear hA hn
  go_enter Try.func40, Try.ntmps40
  go_wp2
  go_loopw [4, 7] (fun _ v wr => ∃ k : Nat, k ≤ n ∧ v = .int .i64 k ∧ firstL (L.drop k) = firstL L ∧ Kp w wr) (fun _ v _ => n - (intOf v).toNat)
  case atStart => exact ⟨0, Nat.zero_le _, rfl, rfl, Upd.refl _ _⟩
  case round =>
    obtain ⟨k, hk, rfl, ht, hu⟩ := hrel
    have HT := Lib.hid ht
    have HU := Lib.hid hu
    clear ht hu
    by_cases hlt : k < n
    · have hkl : k < L.length := by have := HN.out; omega
      obtain ⟨g, o, rfl, hc⟩ := (H.out.upd HU.out).at1 hkl
      obtain ⟨x, hx⟩ : ∃ x, x = L[k] := ⟨_, rfl⟩
      rw [← hx] at hc
      have HX := Lib.hid hx
      clear hx
      have hk0 : (0 : Int) ≤ k := by omega
      have hk1 : (k : Int) < n := by omega
      by_cases hx0 : x = 0
      · subst hx0
        go_wp2
        go_roundw
        case rel => exact ⟨k + 1, by omega, by go_num, by rw [← firstL_drop hkl HX.out.symm]; exact HT.out, HU.out⟩
        case measure => simp [intOf]; omega
      · have HX0 := Lib.hid hx0
        have hxb : (x != 0) = true := by simpa using hx0
        clear hx0
        go_wp2
        go_ret
        exact ⟨by rw [← HT.out, firstL_hit hkl (by rw [← HX.out]; exact HX0.out), ← HX.out]; rfl, HU.out⟩
    · have hkn : k = n := by omega
      subst hkn
      go_wp2
      go_ret
      refine ⟨?_, HU.out⟩
      rw [← HT.out, List.drop_of_length_le (by have := HN.out; omega)]
      rfl

/-- letters -/
def isLet (c : UInt8) : Bool := decide (97 ≤ c.toNat ∧ c.toNat ≤ 122)
theorem isWord_bad {l : List UInt8} {k : Nat} (hk : k < l.length) (h : isLet l[k] = false) : isWord l = false := by
  unfold isWord
  rw [Bool.and_eq_false_iff]
  left
  rw [List.all_eq_false]
  exact ⟨l[k], List.getElem_mem _, by simpa [isLet] using h⟩
theorem isWord_good {l : List UInt8} (h : ∀ k, ∀ hk : k < l.length, isLet l[k] = true) : isWord l = (decide (1 ≤ l.length) && decide (l.length ≤ 30)) := by
  unfold isWord
  rw [List.all_eq_true.2, Bool.true_and]
  intro x hx
  obtain ⟨k, hk, rfl⟩ := List.mem_iff_getElem.1 hx
  exact h k hk

set_option maxHeartbeats 1000000 in
theorem word_any (w : World) (l : List UInt8) (hl : l.length ≤ maxLen) : Calls Try.prog 51 #[.string ⟨l.toArray⟩] w (Gives w (.bool (isWord l))) := by
  have HL := Lib.hid hl
  obtain ⟨n, hn⟩ : ∃ n, n = l.length := ⟨_, rfl⟩
  have HN := Lib.hid hn
  clear hl hn
  go_enter Try.func51, Try.ntmps51
  go_wp2_with (show wpList _ _ _ (⟨some 6, _, _, _, _, _⟩ :: _) _ _; refine wpList_bytes_newL rfl 9 75 5 (.tmp 5) rfl Try.underlying9 Try.underlying75 Try.underlying5 (l := l) rfl HL.out ?_; intro v1 w1 hN; obtain ⟨A, c, e1, hA⟩ := hN.sl.bytes; rw [← HN.out] at e1; subst e1; have H1 := Lib.hid hA; have HU1 : Hid (Kp w w1) := Lib.hid hN.upd; clear hN hA)
  have hL : n ≤ 9223372036854775807 := by have := HL.out; unfold maxLen at this; have := HN.out; omega
  go_loopw [4, 8] (fun _ v wr => ∃ k : Nat, k ≤ n ∧ v = .int .i64 k ∧ (∀ j, ∀ hj : j < l.length, j < k → isLet l[j] = true) ∧ Kp w1 wr) (fun _ v _ => n - (intOf v).toNat)
  case atStart => exact ⟨0, Nat.zero_le _, rfl, by omega, Upd.refl _ _⟩
  case round =>
    obtain ⟨k, hk, rfl, ht, hu⟩ := hrel
    have HT := Lib.hid ht
    have HU := Lib.hid hu
    clear ht hu
    by_cases hlt : k < n
    · have hkl : k < l.length := by have := HN.out; omega
      obtain ⟨g, o, rfl, hc⟩ := (H1.out.upd HU.out).at1 hkl
      obtain ⟨x, hx⟩ : ∃ x, x = l[k] := ⟨_, rfl⟩
      rw [← hx] at hc
      have HX := Lib.hid hx
      clear hx
      obtain ⟨m, hm⟩ : ∃ m : Nat, m = x.toNat := ⟨_, rfl⟩
      rw [← hm] at hc
      have HM := Lib.hid hm
      clear hm
      have hk0 : (0 : Int) ≤ k := by omega
      have hk1 : (k : Int) < n := by omega
      by_cases h1 : m < 97
      · have h2 : (m : Int) < 97 := by omega
        go_wp2
        go_ret
        exact ⟨by rw [isWord_bad hkl (by rw [← HX.out, isLet, ← HM.out]; exact decide_eq_false (by omega))]; rfl, HU1.out.trans HU.out⟩
      · have h2 : ¬ (m : Int) < 97 := by omega
        by_cases h3 : 122 < m
        · have h4 : 122 < (m : Int) := by omega
          go_wp2
          go_ret
          exact ⟨by rw [isWord_bad hkl (by rw [← HX.out, isLet, ← HM.out]; exact decide_eq_false (by omega))]; rfl, HU1.out.trans HU.out⟩
        · have h4 : ¬ 122 < (m : Int) := by omega
          go_wp2
          go_roundw
          case rel =>
            refine ⟨k + 1, by omega, by go_num, fun j hj hjk => ?_, HU.out⟩
            rcases Nat.lt_or_ge j k with h | h
            · exact HT.out j hj h
            · obtain rfl : j = k := by omega
              rw [← HX.out, isLet, ← HM.out]
              exact decide_eq_true (by omega)
          case measure => simp [intOf]; omega
    · have hkn : k = n := by omega
      subst hkn
      have HW := Lib.hid (isWord_good (l := l) (fun j hj => HT.out j hj (by have := HN.out; omega)))
      have hkl := HN.out
      subst hkl
      by_cases h1 : 0 < l.length
      · have h3 : (0 : Int) < (l.length : Int) := by omega
        by_cases h2 : l.length ≤ 30
        · have h4 : (l.length : Int) ≤ 30 := by omega
          go_wp2
          go_ret
          exact ⟨by rw [HW.out, decide_eq_true (by omega), decide_eq_true h2]; rfl, HU1.out.trans HU.out⟩
        · have h4 : ¬ (l.length : Int) ≤ 30 := by omega
          go_wp2
          go_ret
          exact ⟨by rw [HW.out, decide_eq_false h2, Bool.and_false]; rfl, HU1.out.trans HU.out⟩
      · have h3 : ¬ (0 : Int) < (l.length : Int) := by omega
        go_wp2
        go_ret
        exact ⟨by rw [HW.out, decide_eq_false (show ¬ 1 ≤ l.length by omega), Bool.false_and]; rfl, HU1.out.trans HU.out⟩
theorem rword_any (w : World) (l : List UInt8) (hl : l.length ≤ maxLen) : Calls Try.prog 30 #[.string ⟨l.toArray⟩] w (Gives w (.bool (isWord l))) := by
  unfold maxLen at hl
  go_enter Try.func30, Try.ntmps30
  go_wp2
  go_loop [3] (fun v => ∃ k : Nat, k ≤ l.length ∧ v = .int .i64 k ∧ (∀ j, ∀ hj : j < l.length, j < k → isLet l[j] = true)) (fun v => l.length - (intOf v).toNat)
  case atStart => exact ⟨0, Nat.zero_le _, rfl, by omega⟩
  case round =>
    obtain ⟨k, hk, rfl, ht⟩ := hrel
    have HT := Lib.hid ht
    clear ht
    by_cases hkl : k < l.length
    · have hkb : k < (⟨l.toArray⟩ : ByteArray).size := by simpa [ByteArray.size] using hkl
      have HE : Hid ((⟨l.toArray⟩ : ByteArray)[k].toNat = l[k].toNat) := Lib.hid rfl
      by_cases h1 : (((⟨l.toArray⟩ : ByteArray)[k].toNat : Nat) : Int) < 97
      · have H1 : Hid (l[k].toNat < 97) := Lib.hid (by have := HE.out; omega)
        go_wp2
        go_ret
        exact ⟨by rw [isWord_bad hkl (by unfold isLet; exact decide_eq_false (by have := H1.out; omega))]; rfl, Upd.refl _ _⟩
      · have H1 : Hid (97 ≤ l[k].toNat) := Lib.hid (by have := HE.out; omega)
        by_cases h2 : 122 < (((⟨l.toArray⟩ : ByteArray)[k].toNat : Nat) : Int)
        · have H2 : Hid (122 < l[k].toNat) := Lib.hid (by have := HE.out; omega)
          go_wp2
          go_ret
          exact ⟨by rw [isWord_bad hkl (by unfold isLet; exact decide_eq_false (by have := H2.out; omega))]; rfl, Upd.refl _ _⟩
        · have H2 : Hid (l[k].toNat ≤ 122) := Lib.hid (by have := HE.out; omega)
          go_wp2
          go_round
          case rel =>
            refine ⟨k + 1, by omega, by go_num, fun j hj hjk => ?_⟩
            rcases Nat.lt_or_ge j k with h | h
            · exact HT.out j hj h
            · obtain rfl : j = k := by omega
              unfold isLet
              exact decide_eq_true ⟨H1.out, H2.out⟩
          case measure => simp [intOf]; omega
    · have hkn : k = l.length := by omega
      subst hkn
      have HW := Lib.hid (isWord_good (l := l) (fun j hj => HT.out j hj hj))
      by_cases h1 : 0 < l.length
      · have h3 : (1 : Int) ≤ (l.length : Int) := by omega
        by_cases h2 : l.length ≤ 30
        · have h4 : (l.length : Int) ≤ 30 := by omega
          go_wp2
          go_ret
          exact ⟨by rw [HW.out, decide_eq_true (by omega), decide_eq_true h2]; rfl, Upd.refl _ _⟩
        · have h4 : ¬ (l.length : Int) ≤ 30 := by omega
          go_wp2
          go_ret
          exact ⟨by rw [HW.out, decide_eq_false h2, Bool.and_false]; rfl, Upd.refl _ _⟩
      · have h3 : ¬ (1 : Int) ≤ (l.length : Int) := by omega
        go_wp2
        go_ret
        exact ⟨by rw [HW.out, decide_eq_false (show ¬ 1 ≤ l.length by omega), Bool.false_and]; rfl, Upd.refl _ _⟩
end Go.Proofs.Ytaejnhgnacgheaa
