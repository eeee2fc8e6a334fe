/- The desk's act 'Crash' on both. -/
import Derived.Test.YtacghhgiilhkfaaDesk2
import Derived.Deep.CutRange
namespace Go.Proofs.Ytacghhgiilhkfaa
set_option linter.unusedVariables false
open Go.RowKit

set_option maxHeartbeats 4000000 in
theorem do_crash {W w : World} {bx n : Nat} {s : DSt} {R : List Item} (h : DeskAt W w bx n s R) (hn : n < 1000000) {a : ActL} (hk : in64 a.kind) (ho : in64 a.off) (hN : in64 a.n) (ht : a.text.length ≤ maxLen) (k : Nat) (hkk : modI a.kind 8 = k) (hk7 : k = 7) :
    Calls Try.prog 15 #[.pointer (some ⟨bx, 0, none⟩), actV a] w (DoPost W bx (n + 1) (doSt s a) R) := by
  obtain ⟨bd, bm, s', h0, hS, hF, hF'⟩ := h
  obtain ⟨hk1, hk2⟩ := hk
  obtain ⟨hN1, hN2⟩ := id hN
  obtain ⟨a1, ha1⟩ : ∃ a1, w.heap.size = a1 := ⟨_, rfl⟩
  have h : Hid (Own W (w.alloc (.cells #[.int .i64 a.kind, .int .i64 a.off, .int .i64 a.n, .string ⟨a.text.toArray⟩] 33)) (.row a1 33 [.int .i64 a.kind, .int .i64 a.off, .int .i64 a.n, .string ⟨a.text.toArray⟩] :: .row bx 31 [.pointer (some ⟨bd, 0, none⟩), .pointer (some ⟨bm, 0, none⟩)] :: .disk bd s :: .ref bm s' :: R)) := by subst ha1; exact Lib.hid (h0.newRow _ _)
  obtain ⟨c0, c1, c2, c3, c4, c5⟩ := desk_cells h.out
  have HM := Lib.hid hkk
  have HF := Lib.hid hF
  have HF' := Lib.hid hF'
  have HS := Lib.hid hS
  have HO := Lib.hid ho
  have HN := Lib.hid hN
  have hFn := Lib.hid hn
  clear h0 hF hF' hkk hS ho hN hn
  have bx0 := World.block_lt_of_cell? _ _ c4
  unfold actV
  subst hk7
  have HD : Hid (doSt s a = crashedSt s (survL a.n)) := Lib.hid (by unfold doSt; rw [HM.out]; rfl)
  have hq5 : (survL a.n).length ≤ maxLen := by have := survL_le a.n; unfold maxLen; omega
  have HQ5 := Lib.hid hq5
  clear hq5
  go_enter Try.func15, Try.ntmps15
  go_wp2_with (first
    | (go_at_call 14; go_must (refine (mod_any _ _ _ (by decide) (by decide) (by omega) (by omega)).mono ?_; rintro e w' ⟨rfl, rfl⟩; rw [HM.out])))
  go_cut [] from 63 to 73 (fun wx => ∃ bd2 : Nat, Own W wx (.row a1 33 [.int .i64 a.kind, .int .i64 a.off, .int .i64 a.n, .string ⟨a.text.toArray⟩] :: .row bx 31 [.pointer (some ⟨bd2, 0, none⟩), .pointer (some ⟨bm, 0, none⟩)] :: .disk bd2 (crashedSt s (survL a.n)) :: .disk bd s :: .ref bm s' :: R))
  case first =>
    have h := Lib.hid h.out.drew
    have b4 := (desk_cells h.out).2.2.2.2.1
    have b2 := (desk_cells h.out).2.2.1
    go_region_with
      ((first
      | (go_at_call 18; go_must (refine (survive_any _ a.n HN.out).mono ?_; rintro e w2 ⟨A, cq, rfl, hr, hb, hu⟩; have h := Lib.hid (h.out.far hu); clear hu; have HR := Lib.hid (And.intro hr hb); clear hr hb; have e4 := (desk_cells h.out).2.2.2.2.1))
      | (go_at_call 16; go_must (refine (own_crash h.out 2 rfl HF.out (by have := hFn.out; omega) HR.out.1 HR.out.2 HQ5.out).mono ?_; rintro e w2 ⟨bd2, rfl, h2⟩; have h : Hid (Own W w2 (.row a1 33 [.int .i64 a.kind, .int .i64 a.off, .int .i64 a.n, .string ⟨a.text.toArray⟩] :: .row bx 31 [.pointer (some ⟨bd, 0, none⟩), .pointer (some ⟨bm, 0, none⟩)] :: .disk bd2 (crashedSt s (survL a.n)) :: .disk bd s :: .ref bm s' :: R)) := Lib.hid h2.swap.swap2; clear h2; have e4 := (desk_cells h.out).2.2.2.2.1; have f4 := (h.out.row 1 rfl).frozen (j := 0) (by simp)))))
    all_goals (
      go_wp2_with fail
      go_meet
      exact ⟨bd2, h.out.setRow 1 rfl 0 (.pointer (some ⟨bd2, 0, none⟩))⟩)
  case rest =>
    obtain ⟨bd2, hX⟩ := hcut
    have h := Lib.hid hX
    clear hX
    go_wp2_with fail
    go_cut [] from 74 to 84 (fun wx => ∃ bm2 : Nat, Own W wx (.row a1 33 [.int .i64 a.kind, .int .i64 a.off, .int .i64 a.n, .string ⟨a.text.toArray⟩] :: .row bx 31 [.pointer (some ⟨bd2, 0, none⟩), .pointer (some ⟨bm2, 0, none⟩)] :: .ref bm2 (crashedSt s' (survL a.n)) :: .disk bd2 (crashedSt s (survL a.n)) :: .disk bd s :: .ref bm s' :: R))
    case first =>
      have h := Lib.hid h.out.drew
      have b4 := (desk_cells h.out).2.2.2.2.2
      have b2 := (desk_cells h.out).2.2.1
      go_region_with
        ((first
        | (go_at_call 18; go_must (refine (survive_any _ a.n HN.out).mono ?_; rintro e w2 ⟨A, cq, rfl, hr, hb, hu⟩; have h := Lib.hid (h.out.far hu); clear hu; have HR := Lib.hid (And.intro hr hb); clear hr hb; have e4 := (desk_cells h.out).2.2.2.2.2))
        | (go_at_call 17; go_must (refine (own_rcrash h.out 4 rfl HF'.out (by have := hFn.out; omega) HR.out.1 HR.out.2 HQ5.out).mono ?_; rintro e w2 ⟨bm2, rfl, h2⟩; have h : Hid (Own W w2 (.row a1 33 [.int .i64 a.kind, .int .i64 a.off, .int .i64 a.n, .string ⟨a.text.toArray⟩] :: .row bx 31 [.pointer (some ⟨bd2, 0, none⟩), .pointer (some ⟨bm, 0, none⟩)] :: .ref bm2 (crashedSt s' (survL a.n)) :: .disk bd2 (crashedSt s (survL a.n)) :: .disk bd s :: .ref bm s' :: R)) := Lib.hid h2.swap.swap2; clear h2; have e4 := (desk_cells h.out).2.2.2.2.2; have f4 := (h.out.row 1 rfl).frozen (j := 1) (by simp)))))
      all_goals (
        go_wp2_with fail
        go_meet
        exact ⟨bm2, h.out.setRow 1 rfl 1 (.pointer (some ⟨bm2, 0, none⟩))⟩)
    case rest =>
      obtain ⟨bm2, hX⟩ := hcut
      have h := Lib.hid hX
      clear hX
      have b4 := (desk_cells h.out).2.2.2.2.1
      go_wp2_with fail
      go_ret
      rw [HD.out]
      exact ⟨rfl, bd2, bm2, _, ((h.out.tail.swap2).erase 3).erase 3, HS.out.crashed _, (HF.out.crashed _).mono (by omega), (HF'.out.crashed _).mono (by omega)⟩
end Go.Proofs.Ytacghhgiilhkfaa
