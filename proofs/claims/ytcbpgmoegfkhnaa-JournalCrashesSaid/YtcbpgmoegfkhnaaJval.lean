/- journal: value, number; strings.Clone. -/
import Derived.Test.YtcbpgmoegfkhnaaJnum
import Derived.Deep.DeepMust
import Derived.Lib.UnsafeStr
import Derived.Laws.MakeOwn
namespace Go.Proofs.Ytcbpgmoegfkhnaa
set_option linter.unusedVariables false
open Go.RowKit

set_option maxHeartbeats 1000000 in
theorem value_any (w : World) (l : List UInt8) (k : Nat) (hk : k ≤ 8) (hl : l.length ≤ maxLen) :
    Calls Try.prog 23 #[.string ⟨l.toArray⟩, .int .i64 k] w fun e w' => e = .returned (.int .i64 (valI l k)) ∧ w = w' := by
  unfold maxLen at hl
  go_enter Try.func23, Try.ntmps23
  go_wp2
  go_loop [5, 6, 8] (fun v x i => ∃ (j : Nat), j ≤ k ∧ v = .int .i64 (valI l j) ∧ i = .int .i64 j) (fun _ _ i => k - (intOf i).toNat)
  case atStart => exact ⟨0, Nat.zero_le _, rfl, rfl⟩
  case round =>
    obtain ⟨j, hj, rfl, rfl⟩ := hrel
    by_cases hlt : j < k
    · by_cases hs : j < l.length
      · have HV := Lib.hid (valI_in l hs)
        obtain ⟨n, hn⟩ : ∃ n, n = valI l j := ⟨_, rfl⟩
        rw [← hn] at HV ⊢
        clear hn
        go_wp2
        go_round
        case rel => exact ⟨j + 1, by omega, by rw [HV.out]; rfl, by go_num⟩
        case measure => simp [intOf]; omega
      · have HV := Lib.hid (valI_out l hs)
        obtain ⟨n, hn⟩ : ∃ n, n = valI l j := ⟨_, rfl⟩
        rw [← hn] at HV ⊢
        clear hn
        go_wp2
        go_round
        case rel => exact ⟨j + 1, by omega, by rw [HV.out], by go_num⟩
        case measure => simp [intOf]; omega
    · obtain rfl : j = k := by omega
      go_wp2
      go_ret
      exact ⟨rfl, rfl⟩

end Go.Proofs.Ytcbpgmoegfkhnaa
