/- Read, of the disk and of the reference, for every offset and length. -/
import Derived.Test.YtacghhgiilhkfaaRef2
import Derived.Test.YtacghhgiilhkfaaDiskRead
namespace Go.Proofs.Ytacghhgiilhkfaa
set_option linter.unusedVariables false
open Go.RowKit

theorem read_nil (w : World) (off k : Int) : Calls Try.prog 24 #[.pointer none, .int .i64 off, .int .i64 k] w (ReadPost w []) := by
  go_enter Try.func24, Try.ntmps24
  go_wp2
  go_ret
  exact ⟨rfl, 0, rfl⟩

set_option maxHeartbeats 1000000 in
theorem rread_in (b : Nat) (w : World) (now : List UInt8) (h0 : w.cell? ⟨b, 0, none⟩ = some (.string ⟨now.toArray⟩)) (hm : now.length ≤ 50000000) (off k q : Nat) (h1 : 1 ≤ k) (h2 : off < now.length) (hk : k ≤ 9223372036854775807) (hq : q = min k (now.length - off)) :
    Calls Try.prog 26 #[.pointer (some ⟨b, 0, none⟩), .int .i64 off, .int .i64 k] w fun e w' => e = .returned (.string ((ByteArray.mk now.toArray).extract off (off + q))) ∧ ∃ n, w' = w.drewN n := by
  have hk1 : (1 : Int) ≤ (k : Int) := by omega
  have ho0 : (0 : Int) ≤ (off : Int) := by omega
  have hqi : (if ((now.length : Int) - (off : Int)) < (k : Int) then ((now.length : Int) - (off : Int)) else (k : Int)) = (q : Int) := by split <;> omega
  have hq0 : (0 : Int) ≤ (q : Int) := by omega
  have hqn : off + q ≤ now.length := by omega
  have hf1 : (0 : Int) ≤ (off : Int) + (q : Int) := by omega
  have hf2 : (off : Int) + (q : Int) ≤ (now.length : Int) := by omega
  have hf3 : (off : Int) ≤ (off : Int) + (q : Int) := by omega
  have hw := IntWalk.i64_in ((now.length : Int) - (off : Int)) (by omega)
  have hw2 := IntWalk.i64_in ((off : Int) + (q : Int)) (by omega)
  have HQ := Lib.hid hq
  have HQI := Lib.hid hqi
  clear hqi hq
  go_enter Try.func26, Try.ntmps26
  go_wp2_with fail
  go_region_held3 (fun w' => w'.cell? ⟨b, 0, none⟩ = some (.string ⟨now.toArray⟩)) (first | exact h0 | go_keep) ((refine step_of rfl (wp_min (.tmp 28) (.tmp 35) _ rfl rfl rfl HQI.out ?_)))
  go_wp2
  go_ret
  exact ⟨rfl, 1, rfl⟩

theorem rread_any (b : Nat) (w : World) (now syn : List UInt8) (vp : Value) (n l : Int) (f : Bool) (h : RRow w b now syn vp n l f) (hm : now.length ≤ 50000000) (off k : Int) (ho : off ≤ 9223372036854775807) (hk : k ≤ 9223372036854775807) :
    Calls Try.prog 26 #[.pointer (some ⟨b, 0, none⟩), .int .i64 off, .int .i64 k] w (ReadPost w (readL now off k)) := by
  have h0 := h.c0
  clear h
  by_cases h1 : off < 0
  · have e : readL now off k = [] := by unfold readL; rw [if_pos (by omega)]
    rw [e]
    clear e
    go_enter Try.func26, Try.ntmps26
    go_wp2
    go_ret
    exact ⟨rfl, 0, rfl⟩
  · by_cases h2 : k < 1
    · have e : readL now off k = [] := by unfold readL; rw [if_pos (by omega)]
      rw [e]
      clear e
      go_enter Try.func26, Try.ntmps26
      go_wp2
      go_ret
      exact ⟨rfl, 0, rfl⟩
    · by_cases h3 : (now.length : Int) ≤ off
      · have e : readL now off k = [] := by unfold readL; rw [if_pos (by omega)]
        rw [e]
        clear e
        go_enter Try.func26, Try.ntmps26
        go_wp2
        go_ret
        exact ⟨rfl, 0, rfl⟩
      · obtain ⟨o', rfl⟩ := Int.eq_ofNat_of_zero_le (show 0 ≤ off by omega)
        obtain ⟨k', rfl⟩ := Int.eq_ofNat_of_zero_le (show 0 ≤ k by omega)
        refine (rread_in b w now h0 hm o' k' (min k' (now.length - o')) (by omega) (by omega) (by omega) rfl).mono ?_
        rintro e w' ⟨rfl, n, rfl⟩
        refine ⟨?_, n, rfl⟩
        rw [readL_in now o' k' (by omega) (by omega), extract_mid]
        simp
end Go.Proofs.Ytacghhgiilhkfaa
