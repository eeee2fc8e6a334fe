/- journal: the two writes of Append. -/
import Derived.Test.YtcbpgmoegfkhnaaJopenC
namespace Go.Proofs.Ytcbpgmoegfkhnaa
set_option linter.unusedVariables false
open Go.RowKit

def jrow (bd : Nat) (many bytes : Int) (en : Nat) (broken : Bool) : List Value := [.pointer (some ⟨bd, 0, none⟩), .int .i64 many, .int .i64 bytes, .int .i64 en, .bool broken]
/-- what there is while Append's writes are carried out -/
def appM (bn br bx bj bd : Nat) (next : Nat) (r : List UInt8) (many bytes : Int) (en : Nat) (broken : Bool) (M : List Item) : List Item :=
  .row bn 3 [.int .i64 next] :: .row br 9 [.string ⟨r.toArray⟩] :: .row bx 27 [.pointer (some ⟨bj, 0, none⟩)] :: .row bj 61 (jrow bd many bytes en broken) :: M
structure AppC (w : World) (bn br bx bj bd : Nat) (next : Nat) (r : List UInt8) (many bytes : Int) (en : Nat) (broken : Bool) : Prop where
  n : w.cell? ⟨bn, 0, none⟩ = some (.int .i64 next)
  r : w.cell? ⟨br, 0, none⟩ = some (.string ⟨r.toArray⟩)
  x : w.cell? ⟨bx, 0, none⟩ = some (.pointer (some ⟨bj, 0, none⟩))
  j0 : w.cell? ⟨bj, 0, none⟩ = some (.pointer (some ⟨bd, 0, none⟩))
  j1 : w.cell? ⟨bj, 1, none⟩ = some (.int .i64 many)
  j2 : w.cell? ⟨bj, 2, none⟩ = some (.int .i64 bytes)
  j3 : w.cell? ⟨bj, 3, none⟩ = some (.int .i64 en)
  j4 : w.cell? ⟨bj, 4, none⟩ = some (.bool broken)
theorem app_cells {W w : World} {bn br bx bj bd next en : Nat} {r : List UInt8} {many bytes : Int} {broken : Bool} {M : List Item} (h : Own W w (appM bn br bx bj bd next r many bytes en broken M)) : AppC w bn br bx bj bd next r many bytes en broken :=
  ⟨(h.row 0 rfl).cell 0, (h.row 1 rfl).cell 0, (h.row 2 rfl).cell 0, (h.row 3 rfl).cell 0, (h.row 3 rfl).cell 1, (h.row 3 rfl).cell 2, (h.row 3 rfl).cell 3, (h.row 3 rfl).cell 4⟩
theorem app_two {W w : World} {bn br bx bj bd next en : Nat} {r : List UInt8} {many bytes : Int} {broken : Bool} {M : List Item} (h : Own W w (appM bn br bx bj bd next r many bytes en broken M)) :
    w.cell? ⟨bx, 0, none⟩ = some (.pointer (some ⟨bj, 0, none⟩)) ∧ w.cell? ⟨bj, 0, none⟩ = some (.pointer (some ⟨bd, 0, none⟩)) ∧ w.cell? ⟨bj, 3, none⟩ = some (.int .i64 en) ∧ w.cell? ⟨br, 0, none⟩ = some (.string ⟨r.toArray⟩) ∧ w.cell? ⟨bn, 0, none⟩ = some (.int .i64 next) :=
  ⟨(app_cells h).x, (app_cells h).j0, (app_cells h).j3, (app_cells h).r, (app_cells h).n⟩

theorem run_cat (x y : List UInt8) (h : x.length + y.length ≤ 9223372036854775807) (w : World) : (Op.stringOp .add ⟨x.toArray⟩ ⟨y.toArray⟩).run Try.prog w = .ok (.string ⟨(x ++ y).toArray⟩) w := by
  rw [run_string_add_sum w _ _ (by simp [ByteArray.size]; omega), ByteArray.mk_append_mk]

section
variable {W w : World} {bn br bx bj bd next en : Nat} {r : List UInt8} {many bytes : Int} {broken : Bool} {M : List Item}

set_option maxHeartbeats 4000000 in
set_option maxRecDepth 20000 in
theorem app1_any (h : Own W w (appM bn br bx bj bd next r many bytes en broken M)) (i : Nat) {s : DSt} (hi : M[i]? = some (.disk bd s)) {n : Nat} (hf : Fit n s) (hn : n ≤ 1500) (hl : r.length ≤ 16777000) (he : en ≤ 33554432) :
    Calls Try.prog 29 #[.pointer (some ⟨bx, 0, none⟩), .pointer (some ⟨br, 0, none⟩)] w
      (IPost W (appM bn br bx bj bd next r many bytes en broken M) (i + 4) (writeSt s en (numL r.length 4 ++ r)).1 (.disk bd (writeSt s en (numL r.length 4 ++ r)).2)) := by
  obtain ⟨x, s1, hw⟩ : ∃ x s1, writeSt s en (numL r.length 4 ++ r) = (x, s1) := ⟨_, _, rfl⟩
  rw [hw]
  dsimp only
  have HW := Lib.hid hw
  have H := Lib.hid h
  have c := app_two h
  obtain ⟨c1, c2, c3, c4, c5⟩ := c
  have hadd := run_cat (numL r.length 4) r (by rw [numL_length]; omega)
  clear hw h
  go_enter Try.func29, Try.ntmps29
  go_wp2
  have h := Lib.hid H.out.drew
  go_region_held3 (fun w' => w'.cell? ⟨bx, 0, none⟩ = some (.pointer (some ⟨bj, 0, none⟩)) ∧ w'.cell? ⟨bj, 0, none⟩ = some (.pointer (some ⟨bd, 0, none⟩)) ∧ w'.cell? ⟨bj, 3, none⟩ = some (.int .i64 en) ∧ w'.cell? ⟨br, 0, none⟩ = some (.string ⟨r.toArray⟩) ∧ w'.cell? ⟨bn, 0, none⟩ = some (.int .i64 next))
    (exact app_two h.out)
    ((first
    | (go_at_call 30; go_must (refine (number_any _ r.length 4 (by decide) (by omega)).mono ?_; rintro e w1 ⟨rfl, hu⟩; have h := Lib.hid (h.out.far hu); clear hu))
    | (go_at_call 21; go_must (have hc := own_write h.out (i + 4) hi hf hn (en : Int) (numL r.length 4 ++ r) (by rw [List.length_append, numL_length]; omega); rw [HW.out] at hc; refine hc.mono ?_; clear hc; rintro e w2 ⟨rfl, h2⟩; have h := Lib.hid h2; clear h2))))
  all_goals go_wp2_with fail
  all_goals go_ret
  all_goals exact ⟨rfl, h.out⟩

set_option maxHeartbeats 400000 in
set_option maxRecDepth 20000 in
theorem app2_any (h : Own W w (appM bn br bx bj bd next r many bytes en broken M)) (i : Nat) {s : DSt} (hi : M[i]? = some (.disk bd s)) {n : Nat} (hf : Fit n s) (hn : n ≤ 1500) {q : Nat} (hq : next = 64 + q) (hq2 : q ≤ 33554432) :
    Calls Try.prog 31 #[.pointer (some ⟨bx, 0, none⟩), .pointer (some ⟨bn, 0, none⟩)] w
      (IPost W (appM bn br bx bj bd next r many bytes en broken M) (i + 4) (writeSt s 0 (numL q 8)).1 (.disk bd (writeSt s 0 (numL q 8)).2)) := by
  obtain ⟨x, s1, hw⟩ : ∃ x s1, writeSt s 0 (numL q 8) = (x, s1) := ⟨_, _, rfl⟩
  rw [hw]
  dsimp only
  have HW := Lib.hid hw
  have H := Lib.hid h
  have c := app_two h
  have hnq : (next : Int) - 64 = q := by omega
  have hwq := IntWalk.i64_in (q : Int) (by omega)
  obtain ⟨c1, c2, c3, c4, c5⟩ := c
  clear hw h hq
  go_enter Try.func31, Try.ntmps31
  go_wp2
  have h := Lib.hid H.out.drew
  go_region_held3 (fun w' => w'.cell? ⟨bx, 0, none⟩ = some (.pointer (some ⟨bj, 0, none⟩)) ∧ w'.cell? ⟨bj, 0, none⟩ = some (.pointer (some ⟨bd, 0, none⟩)) ∧ w'.cell? ⟨bj, 3, none⟩ = some (.int .i64 en) ∧ w'.cell? ⟨br, 0, none⟩ = some (.string ⟨r.toArray⟩) ∧ w'.cell? ⟨bn, 0, none⟩ = some (.int .i64 next))
    (exact app_two h.out)
    ((first
    | (go_at_call 30; go_must (refine (number_any _ q 8 (by decide) (by omega)).mono ?_; rintro e w1 ⟨rfl, hu⟩; have h := Lib.hid (h.out.far hu); clear hu))
    | (go_at_call 21; go_must (have hc := own_write h.out (i + 4) hi hf hn 0 (numL q 8) (by rw [numL_length]; omega); rw [HW.out] at hc; refine hc.mono ?_; clear hc; rintro e w2 ⟨rfl, h2⟩; have h := Lib.hid h2; clear h2))))
  all_goals go_wp2_with fail
  all_goals go_ret
  all_goals exact ⟨rfl, h.out⟩
end
end Go.Proofs.Ytcbpgmoegfkhnaa
