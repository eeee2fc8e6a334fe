/- the reference's helpers: Mod, Put. -/
import Derived.Test.YtacghhgiilhkfaaDisk8
namespace Go.Proofs.Ytacghhgiilhkfaa
set_option linter.unusedVariables false
open Go.RowKit

/-- Mod -/
def modI (n m : Int) : Int := (n.tmod m + m) % m

theorem modI_eq (n m : Int) : modI n m = n % m := by
  unfold modI
  rw [Int.add_emod_right]
  conv => rhs; rw [← Int.tmod_add_mul_tdiv n m]
  rw [Int.add_mul_emod_self_left]
theorem modI_bounds (n m : Int) (hm : 0 < m) : 0 ≤ modI n m ∧ modI n m < m := by
  rw [modI_eq n m]
  exact ⟨Int.emod_nonneg _ (by omega), Int.emod_lt_of_pos _ hm⟩

theorem mod_any (w : World) (n m : Int) (hm : 0 < m) (hm2 : m ≤ 1000000000) (hn : -9223372036854775808 ≤ n) (hn2 : n ≤ 9223372036854775807) :
    Calls Try.prog 14 #[.int .i64 n, .int .i64 m] w fun e w' => e = .returned (.int .i64 (modI n m)) ∧ w = w' := by
  have h1 := Int.lt_tmod_of_pos n hm
  have h2 := Int.tmod_lt_of_pos n hm
  have hne : (m == 0) = false := by simp; omega
  go_enter Try.func14, Try.ntmps14
  go_wp2
  go_ret
  exact ⟨rfl, rfl⟩
theorem str_append (a b : List UInt8) : ByteArray.mk a.toArray ++ ByteArray.mk b.toArray = ⟨(a ++ b).toArray⟩ := by
  apply ByteArray.ext
  simp

theorem str_zeros (d : List UInt8) (q : Nat) : Value.string (ByteArray.mk d.toArray ++ ByteArray.mk (Array.replicate q 0)) = .string ⟨(d ++ List.replicate q 0).toArray⟩ := by
  have e : Array.replicate q (0 : UInt8) = (List.replicate q 0).toArray := by simp
  rw [e, str_append]
theorem rput_pad (d s : List UInt8) (off q : Nat) (hq : q = off - d.length) (h : d.length < off) : putL (d ++ List.replicate q 0) off s = putL d off s := by
  unfold putL
  have e1 : (d ++ List.replicate q (0 : UInt8)).length = off := by simp; omega
  have e2 : off + s.length - (d ++ List.replicate q (0 : UInt8)).length = s.length := by omega
  have e3 : off + s.length - d.length = q + s.length := by omega
  rw [e2, e3, List.append_assoc, List.replicate_append_replicate]
theorem extract_mid (d : List UInt8) (a b : Nat) : (ByteArray.mk d.toArray).extract a b = ⟨((d.drop a).take (b - a)).toArray⟩ := ByteArray.extract_mk d a b
theorem rput_tail (d s : List UInt8) (off : Nat) (h : off ≤ d.length) (he : d.length ≤ off + s.length) : Value.string ((ByteArray.mk d.toArray).extract 0 off ++ ByteArray.mk s.toArray) = .string ⟨(putL d off s).toArray⟩ := by
  have e : putL d off s = d.take off ++ s := by
    unfold putL
    rw [List.take_append_of_le_length h, List.drop_of_length_le (by simp; omega)]
    simp
  rw [extract_mid, str_append, e]
  simp
theorem rput_mid (d s : List UInt8) (off : Nat) (he : off + s.length < d.length) :
    Value.string ((ByteArray.mk d.toArray).extract 0 off ++ ByteArray.mk s.toArray ++ (ByteArray.mk d.toArray).extract (off + s.length) d.length) = .string ⟨(putL d off s).toArray⟩ := by
  have e : (d.drop (off + s.length)).take (d.length - (off + s.length)) = d.drop (off + s.length) := List.take_of_length_le (by simp)
  rw [extract_mid, extract_mid, e, str_append, str_append, putL_fits d s off (by omega)]
  simp

set_option maxHeartbeats 1000000 in
theorem rput_any (w : World) (c s : List UInt8) (off : Nat) (ho : off ≤ 50000000) (hc : c.length ≤ 50000000) (hs : s.length ≤ 50000000) :
    Calls Try.prog 35 #[.string ⟨c.toArray⟩, .int .i64 off, .string ⟨s.toArray⟩] w fun e w' => e = .returned (.string ⟨(putL c off s).toArray⟩) ∧ Upd (fun _ => False) w w' := by
  go_enter Try.func35, Try.ntmps35
  go_wp2_with fail
  go_loopw [0] (fun v wr => ∃ d : List UInt8, v = .string ⟨d.toArray⟩ ∧ putL d off s = putL c off s ∧ d.length ≤ 50000000 ∧ Upd (fun _ => False) w wr) (fun v _ => off - strLen v)
  case atStart => exact ⟨c, rfl, rfl, hc, Upd.refl _ _⟩
  case round =>
    obtain ⟨d, rfl, hd, hdl, hu⟩ := hrel
    have HD := Lib.hid hd
    clear hd
    by_cases hlt : d.length < off
    · obtain ⟨q, hq⟩ : ∃ q, q = off - d.length := ⟨_, rfl⟩
      have hz : ((off : Nat) : Int) - ((d.length : Nat) : Int) = (q : Int) := by omega
      have hq1 : q ≤ 50000000 := by omega
      have HQ := Lib.hid hq
      clear hq
      go_wp2_with (first
        | (show wpList _ _ _ (⟨some 17, _, _, _, _, _⟩ :: _) _ _; go_must (refine wpList_make_zeros rfl (.tmp 16) (.tmp 16) _ rfl T_bytes rfl (n := q) (m := q) rfl rfl (Nat.le_refl _) (by omega) (by unfold maxLen; omega) ?_; intro v1 w1 hN; obtain ⟨A1, c1, rfl, _⟩ := hN.sl.form; have hR := hN.sl.rd; rw [bvs_zeros] at hR))
        | (show wpList _ _ _ (⟨some 18, _, _, _, _, _⟩ :: _) _ _; go_must (refine wpList_string_rd rfl _ _ _ (.tmp 17) rfl Try.underlying52 Try.underlying5 Try.underlying9 rfl hR ?_)))
      go_roundw
      case rel => exact ⟨d ++ List.replicate q 0, str_zeros d q, (rput_pad d s off q HQ.out hlt).trans HD.out, by have := HQ.out; simp; omega, hu.trans hN.upd (fun _ _ h => h)⟩
      case measure =>
        have := HQ.out
        rw [str_zeros]
        simp [strLen, ByteArray.size]
        omega
    · by_cases he : d.length ≤ off + s.length
      · go_wp2_with fail
        go_ret
        exact ⟨by rw [← HD.out, ← rput_tail d s off (by omega) he]; rfl, hu⟩
      · go_wp2_with fail
        go_quiet (fail)
        go_wp2_with fail
        go_ret
        exact ⟨by rw [← HD.out, ← rput_mid d s off (by omega)]; rfl, hu.drewN _⟩
end Go.Proofs.Ytacghhgiilhkfaa
