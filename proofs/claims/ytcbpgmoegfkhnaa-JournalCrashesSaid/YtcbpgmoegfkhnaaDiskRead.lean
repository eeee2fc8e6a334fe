/- disk: Read, whatever its arguments. -/
import Derived.Test.YtcbpgmoegfkhnaaDisk8
namespace Go.Proofs.Ytcbpgmoegfkhnaa
set_option linter.unusedVariables false
open Go.RowKit

def ReadPost (w : World) (l : List UInt8) (e : Ending) (w' : World) : Prop := e = .returned (.string ⟨l.toArray⟩) ∧ ∃ n, w' = w.drewN n

theorem read_any (w : World) (F : Nat → Prop) (b : Nat) (s : DSt) (hd : DiskAt w F b s) (hm : s.now.length ≤ 50000000) (off k : Int) (ho : off ≤ 9223372036854775807) (hk : k ≤ 9223372036854775807) :
    Calls Try.prog 24 #[.pointer (some ⟨b, 0, none⟩), .int .i64 off, .int .i64 k] w (ReadPost w (readL s.now off k)) := by
  obtain ⟨vn, vs, vp, cells, hK⟩ := hd
  obtain ⟨A, c, rfl, hc⟩ := hK.now.form
  have h0 := hK.row.c0
  by_cases h1 : off < 0
  · have e : readL s.now off k = [] := by unfold readL; rw [if_pos (by omega)]
    rw [e]
    have HK := Lib.hid hK
    clear hK e
    go_enter Try.func24, Try.ntmps24
    go_wp2
    go_ret
    exact ⟨rfl, 0, rfl⟩
  · by_cases h2 : k < 1
    · have e : readL s.now off k = [] := by unfold readL; rw [if_pos (by omega)]
      rw [e]
      have HK := Lib.hid hK
      clear hK e
      go_enter Try.func24, Try.ntmps24
      go_wp2
      go_ret
      exact ⟨rfl, 0, rfl⟩
    · by_cases h3 : (s.now.length : Int) ≤ off
      · have e : readL s.now off k = [] := by unfold readL; rw [if_pos (by omega)]
        rw [e]
        have HK := Lib.hid hK
        clear hK e
        go_enter Try.func24, Try.ntmps24
        go_wp2
        go_ret
        exact ⟨rfl, 0, rfl⟩
      · obtain ⟨o', rfl⟩ := Int.eq_ofNat_of_zero_le (show 0 ≤ off by omega)
        obtain ⟨k', rfl⟩ := Int.eq_ofNat_of_zero_le (show 0 ≤ k by omega)
        obtain ⟨g, o, rfl⟩ := Sl.some_ hK.now (by omega)
        refine (read_in b w g o s.now.length c s.now vs vp s.calls s.failing s.left hK.row hK.now hm hc o' k' (min k' (s.now.length - o')) (by omega) (by omega) (by omega) rfl).mono ?_
        rintro e w' ⟨rfl, rfl⟩
        refine ⟨?_, 1, rfl⟩
        rw [readL_in s.now o' k' (by omega) (by omega)]
end Go.Proofs.Ytcbpgmoegfkhnaa
