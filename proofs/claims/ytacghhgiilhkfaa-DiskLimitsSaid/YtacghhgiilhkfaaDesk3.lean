/- The desk: what its methods do. -/
import Derived.Test.YtacghhgiilhkfaaDo1
import Derived.Test.YtacghhgiilhkfaaDo2
namespace Go.Proofs.Ytacghhgiilhkfaa
set_option linter.unusedVariables false
open Go.RowKit

theorem do_any {W w : World} {bx n : Nat} {s : DSt} {R : List Item} (h : DeskAt W w bx n s R) (hn : n < 1000000) {a : ActL} (hk : in64 a.kind) (ho : in64 a.off) (hN : in64 a.n) (ht : a.text.length ≤ maxLen) :
    Calls Try.prog 15 #[.pointer (some ⟨bx, 0, none⟩), actV a] w (DoPost W bx (n + 1) (doSt s a) R) := by
  obtain ⟨k, hkk, _⟩ := modI_nat a.kind 8 (by decide)
  by_cases h4 : k = 4
  · exact do_sync h hn hk ho hN ht k hkk h4
  · by_cases h5 : k = 5
    · exact do_read h hn hk ho hN ht k hkk h5
    · by_cases h6 : k = 6
      · exact do_fail h hn hk ho hN ht k hkk h6
      · by_cases h7 : k = 7
        · exact do_crash h hn hk ho hN ht k hkk h7
        · exact do_write h hn hk ho hN ht k hkk h4 h5 h6 h7

theorem same_cells {W w : World} {bx bd bm : Nat} {m : List Item} (h : Own W w (.row bx 31 [.pointer (some ⟨bd, 0, none⟩), .pointer (some ⟨bm, 0, none⟩)] :: m)) :
    w.cell? ⟨bx, 0, none⟩ = some (.pointer (some ⟨bd, 0, none⟩)) ∧ w.cell? ⟨bx, 1, none⟩ = some (.pointer (some ⟨bm, 0, none⟩)) := ⟨(h.row 0 rfl).cell 0, (h.row 0 rfl).cell 1⟩

set_option maxHeartbeats 4000000 in
theorem same_any {W w : World} {bx n : Nat} {s : DSt} {R : List Item} (h : DeskAt W w bx n s R) :
    Calls Try.prog 19 #[.pointer (some ⟨bx, 0, none⟩)] w (DoPost W bx n s R) := by
  obtain ⟨bd, bm, s', h0, hS, hF, hF'⟩ := h
  have h : Hid (Own W w (.row bx 31 [.pointer (some ⟨bd, 0, none⟩), .pointer (some ⟨bm, 0, none⟩)] :: .disk bd s :: .ref bm s' :: R)) := Lib.hid h0
  have c := same_cells h0
  obtain ⟨c4, c5⟩ := c
  have HF := Lib.hid hF
  have HF' := Lib.hid hF'
  have HS := Lib.hid hS
  clear h0 hF hF' hS
  go_enter Try.func19, Try.ntmps19
  go_wp2_with fail
  have h := Lib.hid h.out.drew
  go_region_held3 (fun w' => w'.cell? ⟨bx, 0, none⟩ = some (.pointer (some ⟨bd, 0, none⟩)) ∧ w'.cell? ⟨bx, 1, none⟩ = some (.pointer (some ⟨bm, 0, none⟩)))
    (exact same_cells h.out)
    ((first
    | (go_at_call 23; go_must (have hc := own_size h.out 1 rfl; refine hc.mono ?_; clear hc; rintro e w' ⟨rfl, rfl⟩))
    | (go_at_call 28; go_must (have hc := own_rsize h.out 2 rfl; rw [HS.out.now] at hc; refine hc.mono ?_; clear hc; rintro e w' ⟨rfl, rfl⟩))
    | (go_at_call 25; go_must (have hc := own_calls h.out 1 rfl; refine hc.mono ?_; clear hc; rintro e w' ⟨rfl, rfl⟩))
    | (go_at_call 36; go_must (have hc := own_rcalls h.out 2 rfl; rw [HS.out.calls] at hc; refine hc.mono ?_; clear hc; rintro e w' ⟨rfl, rfl⟩))
    | (go_at_call 24; go_must (have hc := own_read h.out 1 rfl HF.out 0 33554432 (by decide) (by decide); refine hc.mono ?_; clear hc; rintro e w2 ⟨rfl, h2⟩; have h : Hid (Own W w2 (.row bx 31 [.pointer (some ⟨bd, 0, none⟩), .pointer (some ⟨bm, 0, none⟩)] :: .disk bd s :: .ref bm s' :: R)) := Lib.hid h2; clear h2))
    | (go_at_call 26; go_must (have hc := own_rread h.out 2 rfl HF'.out 0 33554432 (by decide) (by decide); rw [HS.out.now] at hc; refine hc.mono ?_; clear hc; rintro e w2 ⟨rfl, h2⟩; have h : Hid (Own W w2 (.row bx 31 [.pointer (some ⟨bd, 0, none⟩), .pointer (some ⟨bm, 0, none⟩)] :: .disk bd s :: .ref bm s' :: R)) := Lib.hid h2; clear h2))))
  go_wp2_with fail
  go_ret
  exact ⟨rfl, bd, bm, s', h.out, HS.out, HF.out, HF'.out⟩
end Go.Proofs.Ytacghhgiilhkfaa
