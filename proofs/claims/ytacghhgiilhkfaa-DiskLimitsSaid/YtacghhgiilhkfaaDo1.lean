/- What the desk's acts do: disk and model answer alike. -/
import Derived.Test.YtacghhgiilhkfaaDesk2
import Derived.Deep.RegionHeld3
namespace Go.Proofs.Ytacghhgiilhkfaa
set_option linter.unusedVariables false
open Go.RowKit

set_option maxHeartbeats 4000000 in
theorem do_sync {W w : World} {bx n : Nat} {s : DSt} {R : List Item} (h : DeskAt W w bx n s R) (hn : n < 1000000) {a : ActL} (hk : in64 a.kind) (ho : in64 a.off) (hN : in64 a.n) (ht : a.text.length ≤ maxLen) (k : Nat) (hkk : modI a.kind 8 = k) (hk4 : k = 4) :
    Calls Try.prog 15 #[.pointer (some ⟨bx, 0, none⟩), actV a] w (DoPost W bx (n + 1) (doSt s a) R) := by
  obtain ⟨bd, bm, s', h0, hS, hF, hF'⟩ := h
  obtain ⟨hk1, hk2⟩ := hk
  obtain ⟨hN1, hN2⟩ := id hN
  obtain ⟨a1, ha1⟩ : ∃ a1, w.heap.size = a1 := ⟨_, rfl⟩
  have h : Hid (Own W (w.alloc (.cells #[.int .i64 a.kind, .int .i64 a.off, .int .i64 a.n, .string ⟨a.text.toArray⟩] 33)) (.row a1 33 [.int .i64 a.kind, .int .i64 a.off, .int .i64 a.n, .string ⟨a.text.toArray⟩] :: .row bx 31 [.pointer (some ⟨bd, 0, none⟩), .pointer (some ⟨bm, 0, none⟩)] :: .disk bd s :: .ref bm s' :: R)) := by subst ha1; exact Lib.hid (h0.newRow _ _)
  obtain ⟨c0, c1, c2, c3, c4, c5⟩ := desk_cells h.out
  have HM := Lib.hid hkk
  have HF := Lib.hid hF
  have HF' := Lib.hid hF'
  have HS := Lib.hid hS
  have HO := Lib.hid ho
  have HN := Lib.hid hN
  have hFn := Lib.hid hn
  clear h0 hF hF' hkk hS ho hN hn
  have bx0 := World.block_lt_of_cell? _ _ c4
  unfold actV
  subst hk4
  obtain ⟨r, s1, hw⟩ : ∃ r s1, syncSt s = (r, s1) := ⟨_, _, rfl⟩
  obtain ⟨s1', hw'⟩ : ∃ s1', rsyncSt s' = (r, s1') := ⟨_, by rw [← (show (rsyncSt s').1 = r by rw [HS.out.sync.1, hw])]⟩
  have W1 := Lib.hid hw
  have W2 := Lib.hid hw'
  clear hw hw'
  have HD : Hid (doSt s a = s1) := Lib.hid (by unfold doSt; rw [HM.out]; show (syncSt s).2 = s1; rw [W1.out])
  go_enter Try.func15, Try.ntmps15
  go_wp2_with (first
    | (go_at_call 14; go_must (refine (mod_any _ _ _ (by decide) (by decide) (by omega) (by omega)).mono ?_; rintro e w' ⟨rfl, rfl⟩; rw [HM.out])))
  have h := Lib.hid h.out.drew
  go_region_held3 (fun w' => w'.cell? ⟨a1, 0, none⟩ = some (.int .i64 a.kind) ∧ w'.cell? ⟨a1, 1, none⟩ = some (.int .i64 a.off) ∧ w'.cell? ⟨a1, 2, none⟩ = some (.int .i64 a.n) ∧ w'.cell? ⟨a1, 3, none⟩ = some (.string ⟨a.text.toArray⟩) ∧ w'.cell? ⟨bx, 0, none⟩ = some (.pointer (some ⟨bd, 0, none⟩)) ∧ w'.cell? ⟨bx, 1, none⟩ = some (.pointer (some ⟨bm, 0, none⟩)))
    (exact desk_cells h.out)
    ((first
    | (go_at_call 22; go_must (have hc := own_sync h.out 2 rfl HF.out (by have := hFn.out; omega); rw [W1.out] at hc; refine hc.mono ?_; clear hc; rintro e w2 ⟨rfl, h2⟩; have h : Hid (Own W w2 (.row a1 33 [.int .i64 a.kind, .int .i64 a.off, .int .i64 a.n, .string ⟨a.text.toArray⟩] :: .row bx 31 [.pointer (some ⟨bd, 0, none⟩), .pointer (some ⟨bm, 0, none⟩)] :: .disk bd s1 :: .ref bm s' :: R)) := Lib.hid h2; clear h2))
    | (go_at_call 30; go_must (have hc := own_rsync h.out 3 rfl HF'.out (by have := hFn.out; omega); rw [W2.out] at hc; refine hc.mono ?_; clear hc; rintro e w2 ⟨rfl, h2⟩; have h : Hid (Own W w2 (.row a1 33 [.int .i64 a.kind, .int .i64 a.off, .int .i64 a.n, .string ⟨a.text.toArray⟩] :: .row bx 31 [.pointer (some ⟨bd, 0, none⟩), .pointer (some ⟨bm, 0, none⟩)] :: .disk bd s1 :: .ref bm s1' :: R)) := Lib.hid h2; clear h2))))
  go_wp2_with fail
  go_ret
  rw [HD.out]
  exact ⟨rfl, bd, bm, s1', h.out.tail, (by have := HS.out.sync.2; rwa [W1.out, W2.out] at this), (by have := HF.out.sync; rwa [W1.out] at this), (by have := HF'.out.rsync; rwa [W2.out] at this)⟩

set_option maxHeartbeats 4000000 in
theorem do_write {W w : World} {bx n : Nat} {s : DSt} {R : List Item} (h : DeskAt W w bx n s R) (hn : n < 1000000) {a : ActL} (hk : in64 a.kind) (ho : in64 a.off) (hN : in64 a.n) (ht : a.text.length ≤ maxLen) (k : Nat) (hkk : modI a.kind 8 = k) (hk4 : k ≠ 4) (hk5 : k ≠ 5) (hk6 : k ≠ 6) (hk7 : k ≠ 7) :
    Calls Try.prog 15 #[.pointer (some ⟨bx, 0, none⟩), actV a] w (DoPost W bx (n + 1) (doSt s a) R) := by
  obtain ⟨bd, bm, s', h0, hS, hF, hF'⟩ := h
  obtain ⟨hk1, hk2⟩ := hk
  obtain ⟨hN1, hN2⟩ := id hN
  obtain ⟨a1, ha1⟩ : ∃ a1, w.heap.size = a1 := ⟨_, rfl⟩
  have h : Hid (Own W (w.alloc (.cells #[.int .i64 a.kind, .int .i64 a.off, .int .i64 a.n, .string ⟨a.text.toArray⟩] 33)) (.row a1 33 [.int .i64 a.kind, .int .i64 a.off, .int .i64 a.n, .string ⟨a.text.toArray⟩] :: .row bx 31 [.pointer (some ⟨bd, 0, none⟩), .pointer (some ⟨bm, 0, none⟩)] :: .disk bd s :: .ref bm s' :: R)) := by subst ha1; exact Lib.hid (h0.newRow _ _)
  obtain ⟨c0, c1, c2, c3, c4, c5⟩ := desk_cells h.out
  have HM := Lib.hid hkk
  have HF := Lib.hid hF
  have HF' := Lib.hid hF'
  have HS := Lib.hid hS
  have HO := Lib.hid ho
  have HN := Lib.hid hN
  have hFn := Lib.hid hn
  clear h0 hF hF' hkk hS ho hN hn
  have bx0 := World.block_lt_of_cell? _ _ c4
  unfold actV
  obtain ⟨r, s1, hw⟩ : ∃ r s1, writeSt s (whereI a) (longL a) = (r, s1) := ⟨_, _, rfl⟩
  obtain ⟨s1', hw'⟩ : ∃ s1', rwriteSt s' (whereI a) (longL a) = (r, s1') := ⟨_, by rw [← (show (rwriteSt s' (whereI a) (longL a)).1 = r by rw [(HS.out.write _ _).1, hw])]⟩
  have W1 := Lib.hid hw
  have W2 := Lib.hid hw'
  clear hw hw'
  have hll : (longL a).length ≤ 400 := by have := longL_le a; omega
  have HLL := Lib.hid hll
  have HD : Hid (doSt s a = s1) := Lib.hid (by unfold doSt; rw [HM.out, if_neg (by omega), if_neg (by omega), if_neg (by omega), if_neg (by omega), W1.out])
  go_enter Try.func15, Try.ntmps15
  go_wp2_with (first
    | (go_at_call 14; go_must (refine (mod_any _ _ _ (by decide) (by decide) (by omega) (by omega)).mono ?_; rintro e w' ⟨rfl, rfl⟩; rw [HM.out])))
  have h := Lib.hid h.out.drew
  go_region_held3 (fun w' => w'.cell? ⟨a1, 0, none⟩ = some (.int .i64 a.kind) ∧ w'.cell? ⟨a1, 1, none⟩ = some (.int .i64 a.off) ∧ w'.cell? ⟨a1, 2, none⟩ = some (.int .i64 a.n) ∧ w'.cell? ⟨a1, 3, none⟩ = some (.string ⟨a.text.toArray⟩) ∧ w'.cell? ⟨bx, 0, none⟩ = some (.pointer (some ⟨bd, 0, none⟩)) ∧ w'.cell? ⟨bx, 1, none⟩ = some (.pointer (some ⟨bm, 0, none⟩)))
    (exact desk_cells h.out)
    ((first
    | (go_at_call 31; go_must (refine (where_any _ a HO.out).mono ?_; rintro e w2 ⟨rfl, hu⟩; have h := Lib.hid (h.out.far hu); clear hu))
    | (go_at_call 33; go_must (refine (long_any _ a HN.out ht).mono ?_; rintro e w2 ⟨rfl, hu⟩; have h := Lib.hid (h.out.far hu); clear hu))
    | (go_at_call 21; go_must (have hc := own_write h.out 2 rfl HF.out (by have := hFn.out; omega) (whereI a) (longL a) HLL.out; rw [W1.out] at hc; refine hc.mono ?_; clear hc; rintro e w2 ⟨rfl, h2⟩; have h : Hid (Own W w2 (.row a1 33 [.int .i64 a.kind, .int .i64 a.off, .int .i64 a.n, .string ⟨a.text.toArray⟩] :: .row bx 31 [.pointer (some ⟨bd, 0, none⟩), .pointer (some ⟨bm, 0, none⟩)] :: .disk bd s1 :: .ref bm s' :: R)) := Lib.hid h2; clear h2))
    | (go_at_call 27; go_must (have hc := own_rwrite h.out 3 rfl HF'.out (by have := hFn.out; omega) (whereI a) (where_in64 HO.out) (longL a) HLL.out; rw [W2.out] at hc; refine hc.mono ?_; clear hc; rintro e w2 ⟨rfl, h2⟩; have h : Hid (Own W w2 (.row a1 33 [.int .i64 a.kind, .int .i64 a.off, .int .i64 a.n, .string ⟨a.text.toArray⟩] :: .row bx 31 [.pointer (some ⟨bd, 0, none⟩), .pointer (some ⟨bm, 0, none⟩)] :: .disk bd s1 :: .ref bm s1' :: R)) := Lib.hid h2; clear h2))))
  go_wp2_with fail
  go_ret
  rw [HD.out]
  exact ⟨rfl, bd, bm, s1', h.out.tail, (by have := (HS.out.write (whereI a) (longL a)).2; rwa [W1.out, W2.out] at this), (by have := HF.out.write (off := whereI a) HLL.out; rwa [W1.out] at this), (by have := HF'.out.rwrite (off := whereI a) HLL.out; rwa [W2.out] at this)⟩

set_option maxHeartbeats 4000000 in
theorem do_read {W w : World} {bx n : Nat} {s : DSt} {R : List Item} (h : DeskAt W w bx n s R) (hn : n < 1000000) {a : ActL} (hk : in64 a.kind) (ho : in64 a.off) (hN : in64 a.n) (ht : a.text.length ≤ maxLen) (k : Nat) (hkk : modI a.kind 8 = k) (hk5 : k = 5) :
    Calls Try.prog 15 #[.pointer (some ⟨bx, 0, none⟩), actV a] w (DoPost W bx (n + 1) (doSt s a) R) := by
  obtain ⟨bd, bm, s', h0, hS, hF, hF'⟩ := h
  obtain ⟨hk1, hk2⟩ := hk
  obtain ⟨hN1, hN2⟩ := id hN
  obtain ⟨a1, ha1⟩ : ∃ a1, w.heap.size = a1 := ⟨_, rfl⟩
  have h : Hid (Own W (w.alloc (.cells #[.int .i64 a.kind, .int .i64 a.off, .int .i64 a.n, .string ⟨a.text.toArray⟩] 33)) (.row a1 33 [.int .i64 a.kind, .int .i64 a.off, .int .i64 a.n, .string ⟨a.text.toArray⟩] :: .row bx 31 [.pointer (some ⟨bd, 0, none⟩), .pointer (some ⟨bm, 0, none⟩)] :: .disk bd s :: .ref bm s' :: R)) := by subst ha1; exact Lib.hid (h0.newRow _ _)
  obtain ⟨c0, c1, c2, c3, c4, c5⟩ := desk_cells h.out
  have HM := Lib.hid hkk
  have HF := Lib.hid hF
  have HF' := Lib.hid hF'
  have HS := Lib.hid hS
  have HO := Lib.hid ho
  have HN := Lib.hid hN
  have hFn := Lib.hid hn
  clear h0 hF hF' hkk hS ho hN hn
  have bx0 := World.block_lt_of_cell? _ _ c4
  unfold actV
  subst hk5
  have HD : Hid (doSt s a = s) := Lib.hid (by unfold doSt; rw [HM.out]; rfl)
  go_enter Try.func15, Try.ntmps15
  go_wp2_with (first
    | (go_at_call 14; go_must (refine (mod_any _ _ _ (by decide) (by decide) (by omega) (by omega)).mono ?_; rintro e w' ⟨rfl, rfl⟩; rw [HM.out])))
  have h := Lib.hid h.out.drew
  go_region_held3 (fun w' => w'.cell? ⟨a1, 0, none⟩ = some (.int .i64 a.kind) ∧ w'.cell? ⟨a1, 1, none⟩ = some (.int .i64 a.off) ∧ w'.cell? ⟨a1, 2, none⟩ = some (.int .i64 a.n) ∧ w'.cell? ⟨a1, 3, none⟩ = some (.string ⟨a.text.toArray⟩) ∧ w'.cell? ⟨bx, 0, none⟩ = some (.pointer (some ⟨bd, 0, none⟩)) ∧ w'.cell? ⟨bx, 1, none⟩ = some (.pointer (some ⟨bm, 0, none⟩)))
    (exact desk_cells h.out)
    ((first
    | (go_at_call 31; go_must (refine (where_any _ a HO.out).mono ?_; rintro e w2 ⟨rfl, hu⟩; have h := Lib.hid (h.out.far hu); clear hu))
    | (go_at_call 24; go_must (have hc := own_read h.out 2 rfl HF.out (whereI a) a.n (where_in64 HO.out).2 (by omega); refine hc.mono ?_; clear hc; rintro e w2 ⟨rfl, h2⟩; have h : Hid (Own W w2 (.row a1 33 [.int .i64 a.kind, .int .i64 a.off, .int .i64 a.n, .string ⟨a.text.toArray⟩] :: .row bx 31 [.pointer (some ⟨bd, 0, none⟩), .pointer (some ⟨bm, 0, none⟩)] :: .disk bd s :: .ref bm s' :: R)) := Lib.hid h2; clear h2))
    | (go_at_call 26; go_must (have hc := own_rread h.out 3 rfl HF'.out (whereI a) a.n (where_in64 HO.out).2 (by omega); rw [HS.out.now] at hc; refine hc.mono ?_; clear hc; rintro e w2 ⟨rfl, h2⟩; have h : Hid (Own W w2 (.row a1 33 [.int .i64 a.kind, .int .i64 a.off, .int .i64 a.n, .string ⟨a.text.toArray⟩] :: .row bx 31 [.pointer (some ⟨bd, 0, none⟩), .pointer (some ⟨bm, 0, none⟩)] :: .disk bd s :: .ref bm s' :: R)) := Lib.hid h2; clear h2))))
  go_wp2_with fail
  go_ret
  rw [HD.out]
  exact ⟨rfl, bd, bm, s', h.out.tail, HS.out, HF.out.mono (by omega), HF'.out.mono (by omega)⟩

set_option maxHeartbeats 4000000 in
theorem do_fail {W w : World} {bx n : Nat} {s : DSt} {R : List Item} (h : DeskAt W w bx n s R) (hn : n < 1000000) {a : ActL} (hk : in64 a.kind) (ho : in64 a.off) (hN : in64 a.n) (ht : a.text.length ≤ maxLen) (k : Nat) (hkk : modI a.kind 8 = k) (hk6 : k = 6) :
    Calls Try.prog 15 #[.pointer (some ⟨bx, 0, none⟩), actV a] w (DoPost W bx (n + 1) (doSt s a) R) := by
  obtain ⟨bd, bm, s', h0, hS, hF, hF'⟩ := h
  obtain ⟨hk1, hk2⟩ := hk
  obtain ⟨hN1, hN2⟩ := id hN
  obtain ⟨a1, ha1⟩ : ∃ a1, w.heap.size = a1 := ⟨_, rfl⟩
  have h : Hid (Own W (w.alloc (.cells #[.int .i64 a.kind, .int .i64 a.off, .int .i64 a.n, .string ⟨a.text.toArray⟩] 33)) (.row a1 33 [.int .i64 a.kind, .int .i64 a.off, .int .i64 a.n, .string ⟨a.text.toArray⟩] :: .row bx 31 [.pointer (some ⟨bd, 0, none⟩), .pointer (some ⟨bm, 0, none⟩)] :: .disk bd s :: .ref bm s' :: R)) := by subst ha1; exact Lib.hid (h0.newRow _ _)
  obtain ⟨c0, c1, c2, c3, c4, c5⟩ := desk_cells h.out
  have HM := Lib.hid hkk
  have HF := Lib.hid hF
  have HF' := Lib.hid hF'
  have HS := Lib.hid hS
  have HO := Lib.hid ho
  have HN := Lib.hid hN
  have hFn := Lib.hid hn
  clear h0 hF hF' hkk hS ho hN hn
  have bx0 := World.block_lt_of_cell? _ _ c4
  unfold actV
  subst hk6
  obtain ⟨j, hj, hj9⟩ : ∃ j : Nat, modI a.n 9 = j ∧ (j : Int) < 9 := modI_nat a.n 9 (by decide)
  have HK := Lib.hid hj
  clear hj
  have HD : Hid (doSt s a = failSt s ((j : Int) - 1)) := Lib.hid (by unfold doSt; rw [HM.out, HK.out]; rfl)
  go_enter Try.func15, Try.ntmps15
  go_wp2_with (first
    | (go_at_call 14; go_must (refine (mod_any _ _ _ (by decide) (by decide) (by omega) (by omega)).mono ?_; rintro e w' ⟨rfl, rfl⟩; first | rw [HM.out] | rw [HK.out]))
    | (go_at_call 29; go_must (have hc := own_fail h.out 2 rfl ((j : Int) - 1); refine hc.mono ?_; clear hc; rintro e w2 ⟨rfl, h2⟩; have h : Hid (Own W w2 (.row a1 33 [.int .i64 a.kind, .int .i64 a.off, .int .i64 a.n, .string ⟨a.text.toArray⟩] :: .row bx 31 [.pointer (some ⟨bd, 0, none⟩), .pointer (some ⟨bm, 0, none⟩)] :: .disk bd (failSt s ((j : Int) - 1)) :: .ref bm s' :: R)) := Lib.hid h2; clear h2; have d5 := (desk_cells h.out).2.2.2.2.2))
    | (go_at_call 32; go_must (have hc := own_rfail h.out 3 rfl ((j : Int) - 1); refine hc.mono ?_; clear hc; rintro e w2 ⟨rfl, h2⟩; have h : Hid (Own W w2 (.row a1 33 [.int .i64 a.kind, .int .i64 a.off, .int .i64 a.n, .string ⟨a.text.toArray⟩] :: .row bx 31 [.pointer (some ⟨bd, 0, none⟩), .pointer (some ⟨bm, 0, none⟩)] :: .disk bd (failSt s ((j : Int) - 1)) :: .ref bm (failSt s' ((j : Int) - 1)) :: R)) := Lib.hid h2; clear h2)))
  go_ret
  rw [HD.out]
  exact ⟨rfl, bd, bm, _, h.out.tail, HS.out.fail _, HF.out.fail (by omega) (by omega), HF'.out.fail (by omega) (by omega)⟩
end Go.Proofs.Ytacghhgiilhkfaa
