/- types: the errors of an entrant by kind; slices.Contains, slices.IsSorted. -/
import Derived.Test.YtaejnhgnacgheaaT5
namespace Go.Proofs.Ytaejnhgnacgheaa
set_option linter.unusedVariables false
set_option linter.unusedSimpArgs false
open Go.RowKit

theorem isnan_any (w : World) (a : Int) : Calls Try.prog 102 #[.int .i64 a] w fun e w' => e = .returned (.bool false) ∧ w' = w := by
  go_enter Try.func102, Try.ntmps102
  go_wp2
  go_ret
  exact ⟨rfl, rfl⟩
theorem less_any (w : World) (a b : Int) : Calls Try.prog 92 #[.int .i64 a, .int .i64 b] w fun e w' => e = .returned (.bool (decide (a < b))) ∧ w' = w := by
  go_enter Try.func92, Try.ntmps92
  go_wp2_with (go_at_call 102; refine (isnan_any _ _).mono ?_; rintro e wa ⟨rfl, rfl⟩)
  go_ret
  exact ⟨by simp, rfl⟩
theorem less_quiet : Hid (∀ W a b, Calls Try.prog 92 #[.int .i64 a, .int .i64 b] W (fun e w' => e = .returned (.bool (decide (a < b))) ∧ w' = W)) := Lib.hid less_any

/-- sorted: no element is less than the one before it -/
def sortedB (L : List Int) : Bool := (List.range L.length).all fun i => decide (i = 0) || decide (¬ L.getD i 0 < L.getD (i - 1) 0)
theorem sorted_bad {L : List Int} {k : Nat} (hk : k + 1 < L.length) (h : L[k + 1] < L[k]) : sortedB L = false := by
  unfold sortedB
  rw [List.all_eq_false]
  refine ⟨k + 1, List.mem_range.2 hk, ?_⟩
  simp [List.getD, List.getElem?_eq_getElem hk, List.getElem?_eq_getElem (show k < L.length by omega), h]
theorem sorted_good {L : List Int} (h : ∀ i, ∀ hi : i + 1 < L.length, ¬ L[i + 1] < L[i]) : sortedB L = true := by
  unfold sortedB
  rw [List.all_eq_true]
  intro i hi
  have hi' := List.mem_range.1 hi
  cases i with
  | zero => simp
  | succ i =>
    have := h i hi'
    simp [List.getD, List.getElem?_eq_getElem hi', List.getElem?_eq_getElem (show i < L.length by omega)]
    omega

set_option maxHeartbeats 1000000 in
theorem sorted_any (w : World) (v : Value) (L : List Int) (h : Nums w v L) (hL : L.length ≤ 1000000000) : Calls Try.prog 67 #[v] w (Gives w (.bool (sortedB L))) := by
  obtain ⟨A, c, rfl, hA⟩ := h
  have H := Lib.hid hA
  obtain ⟨n, hn⟩ : ∃ n, n = L.length := ⟨_, rfl⟩
  rw [← hn] at hL ⊢
  have HN := Lib.hid hn
  have hwr : IntKind.i64.wrap ((n : Int) - 1) = (n : Int) - 1 := by rw [IntKind.wrap_i64]; omega
  have hwr2 : wrap64 ((n : Int) - 1) = (n : Int) - 1 := by unfold wrap64; omega
  clear hA hn
  go_enter Try.func67, Try.ntmps67
  go_wp2_with (fail)
  clear hwr hwr2
  go_loopw [3] (fun v wr => ∃ i : Int, v = .int .i64 i ∧ -1 ≤ i ∧ i < n ∧ (∀ j, ∀ hj : j + 1 < L.length, i < (j : Int) + 1 → L[j] ≤ L[j + 1]) ∧ Kp w wr) (fun v _ => (intOf v + 1).toNat)
  case atStart => exact ⟨(n : Int) - 1, rfl, by omega, by omega, fun j hj hij => by have := HN.out; omega, Upd.refl _ _⟩
  case round =>
    obtain ⟨i, rfl, hi1, hi2, hg, hu⟩ := hrel
    have HG := Lib.hid hg
    have HU := Lib.hid hu
    clear hg hu
    by_cases hpos : 0 < i
    · obtain ⟨k, hk⟩ : ∃ k : Nat, i = (k : Int) + 1 := ⟨(i - 1).toNat, by omega⟩
      subst hk
      have hkl : k + 1 < L.length := by have := HN.out; omega
      obtain ⟨g, o, hA1, hc1⟩ := (H.out.upd HU.out).at1 (j := k + 1) hkl
      obtain ⟨g2, o2, hA2, hc2⟩ := (H.out.upd HU.out).at1 (j := k) (by omega)
      subst hA1
      cases hA2
      obtain ⟨x, hx⟩ : ∃ x, x = L[k + 1] := ⟨_, rfl⟩
      obtain ⟨y, hy⟩ : ∃ y, y = L[k] := ⟨_, rfl⟩
      rw [← hx] at hc1
      rw [← hy] at hc2
      have HX := Lib.hid hx
      have HY := Lib.hid hy
      clear hx hy
      have hk0 : (0 : Int) ≤ (k : Int) + 1 := by omega
      have hk00 : (0 : Int) ≤ (k : Int) := by omega
      have hk1 : (k : Int) + 1 < n := by omega
      have hk2 : (k : Int) < n := by omega
      have w1 : IntKind.i64.wrap ((k : Int) + 1 - 1) = (k : Int) := by rw [IntKind.wrap_i64]; omega
      have w2 : wrap64 ((k : Int) + 1 - 1) = (k : Int) := by unfold wrap64; omega
      have t1 : ((k : Int) + 1).toNat = k + 1 := by omega
      by_cases hxy : x < y
      · have HQ := Lib.hid hxy
        go_wp2_with (fail)
        go_quiet ((go_at_call 92; exact Calls.quiet_of_same (less_quiet.out _ _ _)))
        go_wp2
        go_ret
        refine ⟨?_, Upd.drewN HU.out _⟩
        rw [sorted_bad hkl (by rw [← HX.out, ← HY.out]; exact HQ.out)]
        rfl
      · have HQ := Lib.hid hxy
        go_wp2_with (fail)
        go_quiet ((go_at_call 92; exact Calls.quiet_of_same (less_quiet.out _ _ _)))
        go_wp2
        go_roundw
        case rel =>
          refine ⟨(k : Int), rfl, by omega, by omega, fun j hj hij => ?_, Upd.drewN HU.out _⟩
          by_cases hjk : j = k
          · subst hjk
            rw [← HX.out, ← HY.out]
            exact HQ.out
          · exact HG.out j hj (by omega)
        case measure => simp [intOf]; omega
    · have hneg : ¬ 0 < i := hpos
      go_wp2
      go_ret
      refine ⟨?_, HU.out⟩
      rw [sorted_good (fun j hj => Int.not_lt.2 (HG.out j hj (by omega)))]
      rfl

set_option maxHeartbeats 1000000 in
theorem index_any (w : World) (v : Value) (L : List Int) (x : Int) (h : Nums w v L) (hL : L.length ≤ 1000000000) : Calls Try.prog 73 #[v, .int .i64 x] w (IdxPost (fun y => decide (y = x)) L w) := by
  obtain ⟨A, c, rfl, hA⟩ := h
  have H := Lib.hid hA
  obtain ⟨n, hn⟩ : ∃ n, n = L.length := ⟨_, rfl⟩
  rw [← hn] at hL ⊢
  have HN := Lib.hid hn
  clear hA hn
  go_enter Try.func73, Try.ntmps73
  go_wp2
  go_loopw [5, 8] (fun _ v wr => ∃ k : Nat, k ≤ n ∧ v = .int .i64 k ∧ (∀ j, ∀ hj : j < L.length, j < k → decide (L[j] = x) = false) ∧ Kp w wr) (fun _ v _ => n - (intOf v).toNat)
  case atStart => exact ⟨0, Nat.zero_le _, rfl, by omega, Upd.refl _ _⟩
  case round =>
    obtain ⟨k, hk, rfl, ht, hu⟩ := hrel
    have HT := Lib.hid ht
    have HU := Lib.hid hu
    clear ht hu
    by_cases hlt : k < n
    · have hkl : k < L.length := by have := HN.out; omega
      obtain ⟨g, o, rfl, hc⟩ := (H.out.upd HU.out).at1 hkl
      obtain ⟨y, hy⟩ : ∃ y, y = L[k] := ⟨_, rfl⟩
      rw [← hy] at hc
      have HY := Lib.hid hy
      clear hy
      have hk0 : (0 : Int) ≤ k := by omega
      have hk1 : (k : Int) < n := by omega
      by_cases hxy : x = y
      · have HXY := Lib.hid hxy
        have hb : (x == y) = true := by simpa using hxy
        clear hxy
        go_wp2
        go_ret
        refine ⟨_, rfl, ?_, HU.out⟩
        rw [any_hit hkl (by rw [← HY.out, ← HXY.out]; simp)]
        exact decide_eq_true hk0
      · have HXY := Lib.hid hxy
        have hb : (x == y) = false := by simpa using hxy
        clear hxy
        go_wp2
        go_roundw
        case rel =>
          refine ⟨k + 1, by omega, by go_num, fun j hj hjk => ?_, HU.out⟩
          rcases Nat.lt_or_ge j k with h | h
          · exact HT.out j hj h
          · obtain rfl : j = k := by omega
            rw [← HY.out]
            exact decide_eq_false (fun e => HXY.out e.symm)
        case measure => simp [intOf]; omega
    · have hkn : k = n := by omega
      subst hkn
      go_wp2
      go_ret
      refine ⟨_, rfl, ?_, HU.out⟩
      rw [any_miss (fun j hj => HT.out j hj (by rw [HN.out]; exact hj))]
      decide
theorem contains_any (w : World) (v : Value) (L : List Int) (x : Int) (h : Nums w v L) (hL : L.length ≤ 1000000000) : Calls Try.prog 43 #[v, .int .i64 x] w (Gives w (.bool (L.any fun y => decide (y = x)))) := by
  have hcon := index_any w v L x h hL
  go_enter Try.func43, Try.ntmps43
  go_wp2_with (go_at_call 73; refine hcon.mono ?_; rintro e w1 ⟨r, rfl, hr, hb⟩; have HR := Lib.hid hr; have HB := Lib.hid hb; clear hr hb)
  go_ret
  exact ⟨by rw [← HR.out]; rfl, HB.out⟩
end Go.Proofs.Ytaejnhgnacgheaa
