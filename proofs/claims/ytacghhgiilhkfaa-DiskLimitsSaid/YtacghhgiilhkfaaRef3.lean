/- Read, of the disk and of the reference, for every offset and length. -/
import Derived.Test.YtacghhgiilhkfaaRef2
namespace Go.Proofs.Ytacghhgiilhkfaa
set_option linter.unusedVariables false
open Go.RowKit

def ReadPost (w : World) (l : List UInt8) (e : Ending) (w' : World) : Prop := e = .returned (.string ⟨l.toArray⟩) ∧ ∃ n, w' = w.drewN n

theorem read_any (w : World) (F : Nat → Prop) (b : Nat) (s : DSt) (hd : DiskAt w F b s) (hm : s.now.length ≤ 50000000) (off k : Int) (ho : off ≤ 9223372036854775807) (hk : k ≤ 9223372036854775807) :
    Calls Try.prog 24 #[.pointer (some ⟨b, 0, none⟩), .int .i64 off, .int .i64 k] w (ReadPost w (readL s.now off k)) := by
  obtain ⟨vn, vs, vp, cells, hK⟩ := hd
  obtain ⟨A, c, rfl, hc⟩ := hK.now.form
  have h0 := hK.row.c0
  by_cases h1 : off < 0
  · have e : readL s.now off k = [] := by unfold readL; rw [if_pos (by omega)]
    rw [e]
    have HK := Lib.hid hK
    clear hK e
    go_enter Try.func24, Try.ntmps24
    go_wp2
    go_ret
    exact ⟨rfl, 0, rfl⟩
  · by_cases h2 : k < 1
    · have e : readL s.now off k = [] := by unfold readL; rw [if_pos (by omega)]
      rw [e]
      have HK := Lib.hid hK
      clear hK e
      go_enter Try.func24, Try.ntmps24
      go_wp2
      go_ret
      exact ⟨rfl, 0, rfl⟩
    · by_cases h3 : (s.now.length : Int) ≤ off
      · have e : readL s.now off k = [] := by unfold readL; rw [if_pos (by omega)]
        rw [e]
        have HK := Lib.hid hK
        clear hK e
        go_enter Try.func24, Try.ntmps24
        go_wp2
        go_ret
        exact ⟨rfl, 0, rfl⟩
      · obtain ⟨o', rfl⟩ := Int.eq_ofNat_of_zero_le (show 0 ≤ off by omega)
        obtain ⟨k', rfl⟩ := Int.eq_ofNat_of_zero_le (show 0 ≤ k by omega)
        obtain ⟨g, o, rfl⟩ := Sl.some_ hK.now (by omega)
        refine (read_in b w g o s.now.length c s.now vs vp s.calls s.failing s.left hK.row hK.now hm hc o' k' (min k' (s.now.length - o')) (by omega) (by omega) (by omega) rfl).mono ?_
        rintro e w' ⟨rfl, rfl⟩
        refine ⟨?_, 1, rfl⟩
        rw [readL_in s.now o' k' (by omega) (by omega)]

theorem read_nil (w : World) (off k : Int) : Calls Try.prog 24 #[.pointer none, .int .i64 off, .int .i64 k] w (ReadPost w []) := by
  go_enter Try.func24, Try.ntmps24
  go_wp2
  go_ret
  exact ⟨rfl, 0, rfl⟩

set_option maxHeartbeats 1000000 in
theorem rread_in (b : Nat) (w : World) (now : List UInt8) (h0 : w.cell? ⟨b, 0, none⟩ = some (.string ⟨now.toArray⟩)) (hm : now.length ≤ 50000000) (off k q : Nat) (h1 : 1 ≤ k) (h2 : off < now.length) (hk : k ≤ 9223372036854775807) (hq : q = min k (now.length - off)) :
    Calls Try.prog 26 #[.pointer (some ⟨b, 0, none⟩), .int .i64 off, .int .i64 k] w fun e w' => e = .returned (.string ((ByteArray.mk now.toArray).extract off (off + q))) ∧ ∃ n, w' = w.drewN n := by
  have hk1 : (1 : Int) ≤ (k : Int) := by omega
  have ho0 : (0 : Int) ≤ (off : Int) := by omega
  have hqi : (if ((now.length : Int) - (off : Int)) < (k : Int) then ((now.length : Int) - (off : Int)) else (k : Int)) = (q : Int) := by split <;> omega
  have hq0 : (0 : Int) ≤ (q : Int) := by omega
  have hqn : off + q ≤ now.length := by omega
  have hf1 : (0 : Int) ≤ (off : Int) + (q : Int) := by omega
  have hf2 : (off : Int) + (q : Int) ≤ (now.length : Int) := by omega
  have hf3 : (off : Int) ≤ (off : Int) + (q : Int) := by omega
  have hw := IntWalk.i64_in ((now.length : Int) - (off : Int)) (by omega)
  have hw2 := IntWalk.i64_in ((off : Int) + (q : Int)) (by omega)
  have HQ := Lib.hid hq
  have HQI := Lib.hid hqi
  clear hqi hq
  go_enter Try.func26, Try.ntmps26
  go_wp2_with fail
  go_region_held3 (fun w' => w'.cell? ⟨b, 0, none⟩ = some (.string ⟨now.toArray⟩)) (first | exact h0 | go_keep) ((refine step_of rfl (wp_min (.tmp 28) (.tmp 35) _ rfl rfl rfl HQI.out ?_)))
  go_wp2
  go_ret
  exact ⟨rfl, 1, rfl⟩

theorem rread_any (b : Nat) (w : World) (now syn : List UInt8) (vp : Value) (n l : Int) (f : Bool) (h : RRow w b now syn vp n l f) (hm : now.length ≤ 50000000) (off k : Int) (ho : off ≤ 9223372036854775807) (hk : k ≤ 9223372036854775807) :
    Calls Try.prog 26 #[.pointer (some ⟨b, 0, none⟩), .int .i64 off, .int .i64 k] w (ReadPost w (readL now off k)) := by
  have h0 := h.c0
  clear h
  by_cases h1 : off < 0
  · have e : readL now off k = [] := by unfold readL; rw [if_pos (by omega)]
    rw [e]
    clear e
    go_enter Try.func26, Try.ntmps26
    go_wp2
    go_ret
    exact ⟨rfl, 0, rfl⟩
  · by_cases h2 : k < 1
    · have e : readL now off k = [] := by unfold readL; rw [if_pos (by omega)]
      rw [e]
      clear e
      go_enter Try.func26, Try.ntmps26
      go_wp2
      go_ret
      exact ⟨rfl, 0, rfl⟩
    · by_cases h3 : (now.length : Int) ≤ off
      · have e : readL now off k = [] := by unfold readL; rw [if_pos (by omega)]
        rw [e]
        clear e
        go_enter Try.func26, Try.ntmps26
        go_wp2
        go_ret
        exact ⟨rfl, 0, rfl⟩
      · obtain ⟨o', rfl⟩ := Int.eq_ofNat_of_zero_le (show 0 ≤ off by omega)
        obtain ⟨k', rfl⟩ := Int.eq_ofNat_of_zero_le (show 0 ≤ k by omega)
        refine (rread_in b w now h0 hm o' k' (min k' (now.length - o')) (by omega) (by omega) (by omega) rfl).mono ?_
        rintro e w' ⟨rfl, n, rfl⟩
        refine ⟨?_, n, rfl⟩
        rw [readL_in now o' k' (by omega) (by omega), extract_mid]
        simp
end Go.Proofs.Ytacghhgiilhkfaa
