/- disk: Write. -/
import Derived.Test.YtcbpgmoegfkhnaaDisk3
import Derived.Deep.LoopGhost
namespace Go.Proofs.Ytcbpgmoegfkhnaa
set_option linter.unusedVariables false
open Go.RowKit

/-- what a disk holds -/
structure DSt where
  now : List UInt8
  synced : List UInt8
  pieces : List (Nat × List UInt8)
  calls : Int
  failing : Bool
  left : Int

/-- the texts of the pieces, as the cells of the row of pieces show them -/
def Texts (w : World) (F : Nat → Prop) (vn : Value) (cells : List Value) (ps : List (Nat × List UInt8)) : Prop :=
  cells.length = 2 * ps.length ∧ ∀ i p, ps[i]? = some p → ∃ A c, cells[2 * i]? = some (.int .i64 p.1) ∧ cells[2 * i + 1]? = some (.slice A p.2.length c) ∧ Sl w (.slice A p.2.length c) 5 1 p.2.length (bvs p.2) ∧
    ∀ k, (Value.slice A p.2.length c).ownBlock = some k → F k ∧ k < w.heap.size ∧ vn.ownBlock ≠ some k

structure Dk (w : World) (F : Nat → Prop) (b : Nat) (s : DSt) (vn vs vp : Value) (cells : List Value) : Prop where
  row : DRow w b vn vs vp s.calls s.failing s.left
  now : Sl w vn 5 1 s.now.length (bvs s.now)
  syn : Sl w vs 5 1 s.synced.length (bvs s.synced)
  pcs : Sl w vp 68 2 s.pieces.length cells
  txt : Texts w F vn cells s.pieces
  fb : F b
  fn : ∀ k, vn.ownBlock = some k → F k ∧ vs.ownBlock ≠ some k
  fs : ∀ k, vs.ownBlock = some k → F k
  fp : ∀ k, vp.ownBlock = some k → F k

/-- block b is a disk that holds s; all that it owns lies in F -/
def DiskAt (w : World) (F : Nat → Prop) (b : Nat) (s : DSt) : Prop := ∃ vn vs vp cells, Dk w F b s vn vs vp cells

def Grow (F : Nat → Prop) (w w' : World) (k : Nat) : Prop := F k ∨ (w.heap.size ≤ k ∧ k < w'.heap.size)

theorem write_bad (w : World) (b : Nat) (off : Int) (l : List UInt8) (h : off < 0 ∨ 16777216 < off ∨ 16777216 - off < l.length) (hm : l.length ≤ maxLen) :
    Calls Try.prog 21 #[.pointer (some ⟨b, 0, none⟩), .int .i64 off, .string ⟨l.toArray⟩] w fun e w' => e = .returned (.int .i64 1) ∧ w = w' := by
  unfold maxLen at hm
  by_cases h1 : off < 0
  · clear h
    go_enter Try.func21, Try.ntmps21
    go_wp2
    go_ret
    exact ⟨rfl, rfl⟩
  · by_cases h2 : 16777216 < off
    · clear h
      go_enter Try.func21, Try.ntmps21
      go_wp2
      go_ret
      exact ⟨rfl, rfl⟩
    · have h3 : 16777216 - off < l.length := by omega
      clear h
      go_enter Try.func21, Try.ntmps21
      go_wp2
      go_ret
      exact ⟨rfl, rfl⟩
theorem write_nil (w : World) (off : Int) (l : List UInt8) :
    Calls Try.prog 21 #[.pointer none, .int .i64 off, .string ⟨l.toArray⟩] w fun e w' => e = .returned (.int .i64 1) ∧ w = w' := by
  go_enter Try.func21, Try.ntmps21
  go_wp2
  go_ret
  exact ⟨rfl, rfl⟩
theorem write_off (w : World) (b : Nat) (vn vs vp : Value) (n : Int) (h : DRow w b vn vs vp n true 0) (off : Int) (l : List UInt8) (h1 : 0 ≤ off) (h2 : off ≤ 16777216) (h3 : (l.length : Int) ≤ 16777216 - off) :
    Calls Try.prog 21 #[.pointer (some ⟨b, 0, none⟩), .int .i64 off, .string ⟨l.toArray⟩] w fun e w' => e = .returned (.int .i64 70) ∧ w = w' := by
  go_enter Try.func21, Try.ntmps21
  go_wp2_with (go_at_call 34; refine (call_off _ _ _ _ _ _ h).mono ?_; rintro e w' ⟨rfl, rfl⟩)
  go_ret
  exact ⟨rfl, rfl⟩
theorem call_ok (b : Nat) (w : World) (vn vs vp : Value) (n l : Int) (f : Bool) (h : DRow w b vn vs vp n f l) (hn : 0 ≤ n) (hn2 : n ≤ 1000000000) (hok : f = false ∨ l ≠ 0) (hl1 : -1000000000 ≤ l) (hl2 : l ≤ 9223372036854775807) :
    Calls Try.prog 34 #[.pointer (some ⟨b, 0, none⟩)] w (CallPost b w vn vs vp (n + 1) f (if f then l - 1 else l)) := by
  cases f with
  | false => exact call_calm b w vn vs vp n l h hn hn2
  | true => exact call_left b w vn vs vp n l h hn hn2 (by have := hok.resolve_left (by simp); simpa using this) hl1 hl2

theorem Texts.upd {w w' : World} {F F' : Nat → Prop} {vn vn' : Value} {cells : List Value} {ps : List (Nat × List UInt8)} {S : Nat → Prop} (h : Texts w F vn cells ps) (hu : Upd S w w')
    (hS : ∀ k, F k → k < w.heap.size → vn.ownBlock ≠ some k → (∃ cs, Row w k 5 cs) → ¬ S k) (hF : ∀ k, F k → F' k) (hv : ∀ k, k < w.heap.size → vn'.ownBlock = some k → vn.ownBlock = some k) : Texts w' F' vn' cells ps := by
  refine ⟨h.1, fun i p hp => ?_⟩
  obtain ⟨A, c, h1, h2, h3, h4⟩ := h.2 i p hp
  refine ⟨A, c, h1, h2, h3.upd hu (fun k hk => hS k (h4 k hk).1 (h4 k hk).2.1 (h4 k hk).2.2 (h3.row hk)), fun k hk => ?_⟩
  obtain ⟨f1, f2, f3⟩ := h4 k hk
  exact ⟨hF k f1, Nat.lt_of_lt_of_le f2 hu.size, fun e => f3 (hv k f2 e)⟩

section
variable {w w' : World} {F F' S : Nat → Prop} {b : Nat} {s s' : DSt} {vn vs vp vn' vp' : Value} {cells : List Value}

theorem Dk.nb (h : Dk w F b s vn vs vp cells) : vn.ownBlock ≠ some b ∧ vs.ownBlock ≠ some b ∧ vp.ownBlock ≠ some b ∧ (∀ k, vn.ownBlock = some k → vp.ownBlock ≠ some k) ∧ (∀ k, vs.ownBlock = some k → vp.ownBlock ≠ some k) := by
  refine ⟨fun e => ?_, fun e => ?_, fun e => ?_, fun k e e' => ?_, fun k e e' => ?_⟩
  · obtain ⟨cs, hr⟩ := h.now.row e; exact hr.ne_ h.row (by decide) rfl
  · obtain ⟨cs, hr⟩ := h.syn.row e; exact hr.ne_ h.row (by decide) rfl
  · obtain ⟨cs, hr⟩ := h.pcs.row e; exact hr.ne_ h.row (by decide) rfl
  · obtain ⟨cs, hr⟩ := h.now.row e; obtain ⟨cs', hr'⟩ := h.pcs.row e'; exact hr.ne_ hr' (by decide) rfl
  · obtain ⟨cs, hr⟩ := h.syn.row e; obtain ⟨cs', hr'⟩ := h.pcs.row e'; exact hr.ne_ hr' (by decide) rfl

/-- A disk is not touched by what changes none of its blocks. -/
theorem Dk.upd (h : Dk w F b s vn vs vp cells) (hu : Upd S w w') (hS : ∀ k, F k → ¬ S k) (hF : ∀ k, F k → F' k) : Dk w' F' b s vn vs vp cells :=
  ⟨h.row.upd hu (hS _ h.fb), h.now.upd hu (fun k hk => hS k (h.fn k hk).1), h.syn.upd hu (fun k hk => hS k (h.fs k hk)), h.pcs.upd hu (fun k hk => hS k (h.fp k hk)), h.txt.upd hu (fun k hk _ _ _ => hS k hk) hF (fun _ _ e => e),
    hF _ h.fb, fun k hk => ⟨hF k (h.fn k hk).1, (h.fn k hk).2⟩, fun k hk => hF k (h.fs k hk), fun k hk => hF k (h.fp k hk)⟩

/-- Only the disk's own block has changed. -/
theorem Dk.only {n l : Int} {f : Bool} (h : Dk w F b s vn vs vp cells) (hr : DRow w' b vn vs vp n f l) (ho : Only b w w') :
    Dk w' F b { s with calls := n, failing := f, left := l } vn vs vp cells := by
  obtain ⟨h1, h2, h3, _, _⟩ := h.nb
  refine ⟨hr, h.now.upd ho.1 (fun k hk e => h1 (by rw [hk, e])), h.syn.upd ho.1 (fun k hk e => h2 (by rw [hk, e])), h.pcs.upd ho.1 (fun k hk e => h3 (by rw [hk, e])), ⟨h.txt.1, fun i p hp => ?_⟩, h.fb, h.fn, h.fs, h.fp⟩
  obtain ⟨A, c, g1, g2, g3, g4⟩ := h.txt.2 i p hp
  exact ⟨A, c, g1, g2, g3.upd ho.1 (fun k hk e => by obtain ⟨cs, hr⟩ := g3.row hk; exact hr.ne_ h.row (by decide) e), fun k hk => ⟨(g4 k hk).1, by rw [ho.2]; exact (g4 k hk).2.1, (g4 k hk).2.2⟩⟩
end
end Go.Proofs.Ytcbpgmoegfkhnaa
