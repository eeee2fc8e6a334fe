/- journal: number; strings.Clone. -/
import Derived.Test.YtcbpgmoegfkhnaaJval
import Derived.Lib.BufferWrite
namespace Go.Proofs.Ytcbpgmoegfkhnaa
set_option linter.unusedVariables false
open Go.RowKit

def TextPost (w : World) (l : List UInt8) (e : Ending) (w' : World) : Prop := e = .returned (.string ⟨l.toArray⟩) ∧ Upd (fun _ => False) w w'

theorem make_bytes_run (k : Nat) (hk : k ≤ 281474976710656) (w : World) : (Instr.makeSlice 43 (.int .i64 k) (.int .i64 k)).run Try.prog w = .ok (.slice (some ⟨w.heap.size, 0, none⟩) k k) (w.alloc (.cells (madeCells #[.int .u8 0] k) 5)) := by
  obtain ⟨i, hi, hz, hsz, hby⟩ := T_bytes.i
  have hr := run_make (P := Try.prog) w 43 5 i (.int .u8 0) T_bytes.u hi hz .i64 .i64 (k : Int) (k : Int) (by omega) (by omega) (by rw [hby]; omega) (by omega)
  simp only [Int.toNat_natCast, hsz, Nat.mul_one] at hr
  exact hr

/-- What holds at each head of number's loop. -/
def NumRel (w : World) (n k i : Nat) (wr : World) : Prop := Row wr w.heap.size 5 (bvs (List.replicate (k - i) 0 ++ numL n i)) ∧ Upd (fun _ => False) w wr

theorem num_round {w wr : World} {n k j : Nat} (h : NumRel w n k j wr) (hlt : j < k) : NumRel w n k (j + 1) (wr.setCell ⟨w.heap.size, k - 1 - j, none⟩ (.int .u8 ((n : Int) / 2 ^ (8 * j) % 256))) := by
  refine ⟨?_, h.2.setCell (fun hk => by simp at hk) _⟩
  have hs := h.1.set (k - 1 - j) (.int .u8 ((n : Int) / 2 ^ (8 * j) % 256))
  have e : (bvs (List.replicate (k - j) 0 ++ numL n j)).set (k - 1 - j) (.int .u8 ((n : Int) / 2 ^ (8 * j) % 256)) = bvs (List.replicate (k - (j + 1)) 0 ++ numL n (j + 1)) := by
    obtain ⟨m, rfl⟩ : ∃ m, k = m + 1 + j := ⟨k - 1 - j, by omega⟩
    have e1 : m + 1 + j - j = m + 1 := by omega
    have e2 : m + 1 + j - (j + 1) = m := by omega
    have e3 : m + 1 + j - 1 - j = m := by omega
    rw [e1, e2, e3, List.replicate_succ', List.append_assoc, bvs_append, bvs_append, bvs_append]
    have e4 : m = (bvs (List.replicate m 0)).length := by rw [bvs_length, List.length_replicate]
    rw [List.set_append_right _ _ (by omega), ← e4, Nat.sub_self]
    have e5 : (((UInt8.ofNat (n / 256 ^ j % 256)).toNat : Nat) : Int) = (n : Int) / 2 ^ (8 * j) % 256 := by
      rw [UInt8.toNat_ofNat', show (256 : Nat) ^ j = 2 ^ (8 * j) by rw [Nat.pow_mul], Nat.mod_mod_of_dvd _ (by decide)]
      simp
    simp only [bvs, numL, List.map_cons, List.map_nil, List.cons_append, List.nil_append, List.set_cons_zero, e5]
  rw [e] at hs
  exact hs
theorem num_end {w wr : World} {n k : Nat} (h : NumRel w n k k wr) : Rd wr (.slice (some ⟨w.heap.size, 0, none⟩) k k) 1 k (bvs (numL n k)) := by
  have := Rd.of_new (cs := (bvs (numL n k)).toArray) (n := k) (size := 1) (by simpa using h.1) (by simp [bvs_length, numL_length])
  simpa using this

set_option maxHeartbeats 1000000 in
theorem number_any (w : World) (n k : Nat) (hk : k ≤ 8) (hn : n ≤ 9223372036854775807) :
    Calls Try.prog 30 #[.int .i64 n, .int .i64 k] w (TextPost w (numL n k)) := by
  have hmk := fun w => make_bytes_run k (by omega) w
  have hst : NumRel w n k 0 (w.alloc (.cells (madeCells #[.int .u8 0] k) 5)) := ⟨by
    have := Row.new w 5 (madeCells #[.int .u8 0] k)
    rw [toList_madeCells_one, bvs_zeros] at this
    simpa [numL] using this, (Upd.refl _ w).alloc _⟩
  have HST := Lib.hid hst
  clear hst
  go_enter Try.func30, Try.ntmps30
  go_wp2
  go_loopw [6, 11] (fun x i wr => ∃ (j : Nat), j ≤ k ∧ i = .int .i64 j ∧ NumRel w n k j wr) (fun _ i _ => k - (intOf i).toNat)
  case atStart => exact ⟨0, Nat.zero_le _, rfl, HST.out⟩
  case round =>
    obtain ⟨j, hj, rfl, hR⟩ := hrel
    clear hmk
    by_cases hlt : j < k
    · have hc : wr.cell? ⟨w.heap.size, k - 1 - j, none⟩ = some (.int .u8 0) := by
        rw [hR.1.cell, bvs_get, List.getElem?_append_left (by rw [List.length_replicate]; omega), List.getElem?_replicate, if_pos (by omega)]
        rfl
      have hf : wr.frozen? ⟨w.heap.size, k - 1 - j, none⟩ = false := hR.1.frozen (by simp [bvs_length, numL_length]; omega)
      have HR := Lib.hid hR
      clear hR HST
      go_wp2
      go_roundw
      case rel => exact ⟨j + 1, by omega, by go_num, num_round HR.out hlt⟩
      case measure => simp [intOf]; omega
    · obtain rfl : j = k := by omega
      have HR := Lib.hid hR
      clear hR HST
      go_wp2_with (show wpList _ _ _ (⟨some 27, _, _, _, _, _⟩ :: _) _ _; go_must (refine wpList_string_rd rfl 43 9 5 (.tmp 26) rfl Try.underlying43 Try.underlying5 Try.underlying9 rfl (num_end HR.out) ?_))
      go_ret
      exact ⟨rfl, HR.out.2⟩

theorem below_upd {w w' : World} (h : Below w.heap.size w w') : Upd (fun _ => False) w w' := ⟨h.os, h.tape, h.output, h.size, fun k hk _ => h.block k hk⟩

theorem info_u8 : (Try.prog.info? 5).map (fun i => (i.zero, i.size, i.bytes)) = some (some (.int .u8 0), 1, 1) := by kernel_rfl

set_option maxHeartbeats 4000000 in
set_option maxRecDepth 100000 in
theorem lite_clone (s : ByteArray) (w : World) (hlim : s.size ≤ 281474976710656) :
    Calls Try.prog 38 #[.string s] w fun e w' => e = .returned (.string s) ∧ Below w.heap.size w w' := by
  by_cases h0 : s.size = 0
  · have hs : s = ⟨#[]⟩ := by
      apply ByteArray.ext
      exact Array.eq_empty_of_size_eq_zero h0
    subst hs
    go_enter Try.func38, Try.ntmps38
    go_wp2
    go_ret
    exact ⟨rfl, Below.refl _ _⟩
  · obtain ⟨i0, hi, hz0, hz1, hz2⟩ := info_parts info_u8
    have hinfo : (Try.prog.info? 5).map (·.size) = some 1 := by rw [hi]; simp [hz1]
    have hco : Try.prog.cellsOf 5 = 1 := by simp [Program.cellsOf, hi, hz1]
    obtain ⟨M, hM⟩ : ∃ M, M = madeCells (Value.int .u8 0).cells (((s.size : Nat) : Int).toNat * i0.size) := ⟨_, rfl⟩
    have hMs : M.size = s.size := by rw [hM, size_madeCells, hz1]; simp
    have hmk : ∀ W : World, (Instr.makeSlice 43 (.int .i64 (s.size : Int)) (.int .i64 (s.size : Int))).run Try.prog W = .ok (.slice (some ⟨W.heap.size, 0, none⟩) s.size s.size) (W.alloc (.cells M 5)) := fun W => by
      have h := run_make (P := Try.prog) W 43 5 i0 (.int .u8 0) Try.underlying43 hi hz0 .i64 .i64 (s.size : Int) (s.size : Int) (by omega) (by omega) (by rw [hz2]; omega) (by omega)
      rw [← hM] at h
      simpa using h
    clear hM
    have hcp := Lib.run_copy_row_string (P := Try.prog) (w.alloc (.cells M 5)) 43 9 3 5 w.heap.size 0 s.size s.size s M 5 Try.underlying43 hinfo (heap_alloc_new w _) (Nat.le_refl _) (by omega)
    obtain ⟨Y, hY⟩ : ∃ Y, Y = (M.toList.take 0 ++ Lib.byteCells s.data.toList ++ M.toList.drop (0 + s.size)).toArray := ⟨_, rfl⟩
    rw [← hY] at hcp
    have hYl : Y.toList = Lib.byteCells s.data.toList := by
      rw [hY, List.toList_toArray, List.take_zero, List.nil_append, List.drop_of_length_le (by rw [Array.length_toList]; omega), List.append_nil]
    have hYs : Y.size = s.size := by rw [← Array.length_toList, hYl, Lib.byteCells_length, ← Lib.size_eq]
    have hgY : ((w.alloc (.cells M 5)).setRow w.heap.size Y).heap[w.heap.size]? = some (.cells Y 5 (0, 0)) := setRow_heap _ _ M _ 5 (0, 0) (heap_alloc_new w _)
    have hne : s.data.toList ≠ [] := fun e => h0 (by rw [Lib.size_eq, e]; rfl)
    have hUS := Lib.run_unsafeString_row (P := Try.prog) ((w.alloc (.cells M 5)).setRow w.heap.size Y) 75 3 9 5 Try.underlying75 hco w.heap.size Y.size (by unfold World.shape?; rw [hgY]) s.data.toList hne (by rw [← Lib.size_eq]; omega) (by rw [← Lib.size_eq]; omega)
      (fun j x hx => Lib.cells_of_row hgY Y.size j _ (by rw [List.take_of_length_le (by rw [Array.length_toList]; exact Nat.le_refl _), hYl]; simp [Lib.byteCells, hx]))
    rw [← Lib.size_eq] at hUS
    clear hY
    go_enter Try.func38, Try.ntmps38
    go_wp2
    go_ret
    have hb1 : Below w.heap.size w (w.alloc (.cells M 5)) := (Below.refl _ w).alloc (Nat.le_refl _) _
    have hb2 : Below w.heap.size (w.alloc (.cells M 5)) ((w.alloc (.cells M 5)).setRow w.heap.size Y) := ⟨rfl, rfl, rfl, by simp, fun k hk => setRow_other _ _ _ _ (by omega)⟩
    exact ⟨rfl, Lib.below_freeze (hb1.trans hb2) (p := ⟨w.heap.size, 0, none⟩) (Nat.le_refl _) _⟩

theorem clone_any (w : World) (l : List UInt8) (hl : l.length ≤ 281474976710656) :
    Calls Try.prog 27 #[.string ⟨l.toArray⟩] w (TextPost w l) := by
  go_enter Try.func27, Try.ntmps27
  go_wp2_with (go_at_call 38; go_must (refine (lite_clone _ _ (by show l.toArray.size ≤ _; simpa using hl)).mono ?_; rintro e w1 ⟨rfl, hb⟩))
  go_ret
  exact ⟨rfl, below_upd hb⟩
end Go.Proofs.Ytcbpgmoegfkhnaa
