/- The disk and its model hold the same: what a call does to both. -/
import Derived.Test.YtacghhgiilhkfaaLawKit
namespace Go.Proofs.Ytacghhgiilhkfaa
set_option linter.unusedVariables false
open Go.RowKit

structure Sim (s s' : DSt) : Prop where
  now : s'.now = s.now
  syn : s'.synced = s.synced
  pcs : s'.pieces = s.pieces
  calls : s'.calls = s.calls
  failing : s'.failing = s.failing
  left : s.failing = true → s'.left = s.left

theorem Sim.new : Sim newSt newSt := ⟨rfl, rfl, rfl, rfl, rfl, fun _ => rfl⟩
theorem Sim.dead {s s' : DSt} (h : Sim s s') : Dead s' ↔ Dead s := by
  unfold Dead
  rw [h.failing]
  constructor
  · rintro ⟨h1, h2⟩; exact ⟨h1, by rw [← h.left h1]; exact h2⟩
  · rintro ⟨h1, h2⟩; exact ⟨h1, by rw [h.left h1]; exact h2⟩
theorem Sim.wrote {s s' : DSt} (h : Sim s s') (off : Nat) (l : List UInt8) : Sim (wroteSt s off l) (rwroteSt s' off l) := by
  refine ⟨?_, h.syn, ?_, ?_, h.failing, ?_⟩
  · simp only [wroteSt, rwroteSt, h.now]
  · simp only [wroteSt, rwroteSt, h.pcs]
  · simp only [wroteSt, rwroteSt, h.calls]
  · intro hf
    have hf' : s.failing = true := hf
    simp only [wroteSt, rwroteSt, h.left hf', hf', if_true]
theorem Sim.synced {s s' : DSt} (h : Sim s s') : Sim (syncedSt s) (rsyncedSt s') := by
  refine ⟨h.now, h.now, rfl, ?_, h.failing, ?_⟩
  · simp only [syncedSt, rsyncedSt, h.calls]
  · intro hf
    have hf' : s.failing = true := hf
    simp only [syncedSt, rsyncedSt, h.left hf', hf', if_true]
theorem Sim.write {s s' : DSt} (h : Sim s s') (off : Int) (l : List UInt8) : (rwriteSt s' off l).1 = (writeSt s off l).1 ∧ Sim (writeSt s off l).2 (rwriteSt s' off l).2 := by
  unfold writeSt rwriteSt
  by_cases hb : Bad off l
  · rw [if_pos hb, if_pos hb]; exact ⟨rfl, h⟩
  · rw [if_neg hb, if_neg hb]
    by_cases hd : Dead s
    · rw [if_pos hd, if_pos (h.dead.2 hd)]; exact ⟨rfl, h⟩
    · rw [if_neg hd, if_neg (fun x => hd (h.dead.1 x))]; exact ⟨rfl, h.wrote _ _⟩
theorem Sim.sync {s s' : DSt} (h : Sim s s') : (rsyncSt s').1 = (syncSt s).1 ∧ Sim (syncSt s).2 (rsyncSt s').2 := by
  unfold syncSt rsyncSt
  by_cases hd : Dead s
  · rw [if_pos hd, if_pos (h.dead.2 hd)]; exact ⟨rfl, h⟩
  · rw [if_neg hd, if_neg (fun x => hd (h.dead.1 x))]; exact ⟨rfl, h.synced⟩
theorem Sim.fail {s s' : DSt} (h : Sim s s') (k : Int) : Sim (failSt s k) (failSt s' k) := ⟨h.now, h.syn, h.pcs, h.calls, rfl, fun _ => rfl⟩
theorem Sim.crashed {s s' : DSt} (h : Sim s s') (q : List Int) : Sim (crashedSt s q) (crashedSt s' q) := by
  unfold crashedSt
  rw [h.pcs, h.syn]
  exact ⟨rfl, rfl, rfl, rfl, rfl, fun _ => rfl⟩

/-- what an act does -/
def doSt (s : DSt) (a : ActL) : DSt :=
  if modI a.kind 8 = 4 then (syncSt s).2 else if modI a.kind 8 = 5 then s else if modI a.kind 8 = 6 then failSt s (modI a.n 9 - 1) else if modI a.kind 8 = 7 then crashedSt s (survL a.n)
  else (writeSt s (whereI a) (longL a)).2

/-- a desk at block bx: a disk that holds s, its model holding the same -/
def DeskAt (W w : World) (bx n : Nat) (s : DSt) (R : List Item) : Prop :=
  ∃ bd bm s', Own W w (.row bx 31 [.pointer (some ⟨bd, 0, none⟩), .pointer (some ⟨bm, 0, none⟩)] :: .disk bd s :: .ref bm s' :: R) ∧ Sim s s' ∧ Fit n s ∧ Fit n s'

theorem DeskAt.mono {W w : World} {bx n m : Nat} {s : DSt} {R : List Item} (h : DeskAt W w bx n s R) (hm : n ≤ m) : DeskAt W w bx m s R := by
  obtain ⟨bd, bm, s', h1, h2, h3, h4⟩ := h
  exact ⟨bd, bm, s', h1, h2, h3.mono hm, h4.mono hm⟩

theorem desk_cells {W w : World} {a1 bx bd bm : Nat} {a : ActL} {m : List Item} (h : Own W w (.row a1 33 [.int .i64 a.kind, .int .i64 a.off, .int .i64 a.n, .string ⟨a.text.toArray⟩] :: .row bx 31 [.pointer (some ⟨bd, 0, none⟩), .pointer (some ⟨bm, 0, none⟩)] :: m)) :
    w.cell? ⟨a1, 0, none⟩ = some (.int .i64 a.kind) ∧ w.cell? ⟨a1, 1, none⟩ = some (.int .i64 a.off) ∧ w.cell? ⟨a1, 2, none⟩ = some (.int .i64 a.n) ∧ w.cell? ⟨a1, 3, none⟩ = some (.string ⟨a.text.toArray⟩) ∧
    w.cell? ⟨bx, 0, none⟩ = some (.pointer (some ⟨bd, 0, none⟩)) ∧ w.cell? ⟨bx, 1, none⟩ = some (.pointer (some ⟨bm, 0, none⟩)) :=
  ⟨(h.row 0 rfl).cell 0, (h.row 0 rfl).cell 1, (h.row 0 rfl).cell 2, (h.row 0 rfl).cell 3, (h.row 1 rfl).cell 0, (h.row 1 rfl).cell 1⟩

def DoPost (W : World) (bx n : Nat) (s : DSt) (R : List Item) (e : Ending) (w' : World) : Prop := e = .returned (.bool true) ∧ DeskAt W w' bx n s R
end Go.Proofs.Ytacghhgiilhkfaa
