/- the reference's disk: its block, and the small methods. -/
import Derived.Test.YtacghhgiilhkfaaRef1
namespace Go.Proofs.Ytacghhgiilhkfaa
set_option linter.unusedVariables false
open Go.RowKit

theorem T_parts : SlT Try.prog 61 70 2 24 (.agg #[.int .i64 0, .string ⟨#[]⟩]) := SlT.of Try.underlying61 (by kernel_rfl) rfl

abbrev rcells (now syn : List UInt8) (vp : Value) (n l : Int) (f : Bool) : List Value := [.string ⟨now.toArray⟩, .string ⟨syn.toArray⟩, vp, .int .i64 n, .int .i64 l, .bool f]
def RRow (w : World) (b : Nat) (now syn : List UInt8) (vp : Value) (n l : Int) (f : Bool) : Prop := Row w b 63 (rcells now syn vp n l f)

section
variable {w : World} {b : Nat} {now syn : List UInt8} {vp : Value} {n l : Int} {f : Bool} (h : RRow w b now syn vp n l f)
include h
theorem RRow.c0 : w.cell? ⟨b, 0, none⟩ = some (.string ⟨now.toArray⟩) := h.cell 0
theorem RRow.c1 : w.cell? ⟨b, 1, none⟩ = some (.string ⟨syn.toArray⟩) := h.cell 1
theorem RRow.c2 : w.cell? ⟨b, 2, none⟩ = some vp := h.cell 2
theorem RRow.c3 : w.cell? ⟨b, 3, none⟩ = some (.int .i64 n) := h.cell 3
theorem RRow.c4 : w.cell? ⟨b, 4, none⟩ = some (.int .i64 l) := h.cell 4
theorem RRow.c5 : w.cell? ⟨b, 5, none⟩ = some (.bool f) := h.cell 5
theorem RRow.fz (j : Nat) (hj : j < 6) : w.frozen? ⟨b, j, none⟩ = false := h.frozen hj
end

/-- the cells of the parts -/
def pcells : List (Nat × List UInt8) → List Value
  | [] => []
  | p :: ps => .int .i64 p.1 :: .string ⟨p.2.toArray⟩ :: pcells ps
theorem pcells_length : ∀ ps, (pcells ps).length = ps.length * 2
  | [] => rfl
  | p :: ps => by simp only [pcells, List.length_cons, pcells_length ps]; omega
theorem pcells_append : ∀ a b, pcells (a ++ b) = pcells a ++ pcells b
  | [], _ => rfl
  | p :: ps, b => by simp only [pcells, List.cons_append, pcells_append ps b]
theorem pcells_at : ∀ (ps : List (Nat × List UInt8)) (k : Nat) (p : Nat × List UInt8), ps[k]? = some p → (pcells ps)[k * 2]? = some (.int .i64 p.1) ∧ (pcells ps)[k * 2 + 1]? = some (.string ⟨p.2.toArray⟩)
  | [], k, p, h => by simp at h
  | q :: ps, 0, p, h => by simp at h; subst h; simp [pcells]
  | q :: ps, k + 1, p, h => by
    have := pcells_at ps k p (by simpa using h)
    have e : (k + 1) * 2 = k * 2 + 1 + 1 := by omega
    rw [e]
    simpa [pcells] using this

/-- block b is a reference disk that holds s (left is counted always) -/
def RAt (w : World) (F : Nat → Prop) (b : Nat) (s : DSt) : Prop :=
  ∃ vp, RRow w b s.now s.synced vp s.calls s.left s.failing ∧ Sl w vp 70 2 s.pieces.length (pcells s.pieces) ∧ F b ∧ ∀ k, vp.ownBlock = some k → F k

theorem RAt.upd {w w' : World} {F F' S : Nat → Prop} {b : Nat} {s : DSt} (h : RAt w F b s) (hu : Upd S w w') (hS : ∀ k, F k → ¬ S k) (hF : ∀ k, F k → F' k) : RAt w' F' b s := by
  obtain ⟨vp, h1, h2, h3, h4⟩ := h
  exact ⟨vp, Row.upd h1 hu (hS _ h3), h2.upd hu (fun k hk => hS k (h4 k hk)), hF _ h3, fun k hk => hF k (h4 k hk)⟩

theorem rnew_any (w : World) :
    Calls Try.prog 13 #[] w fun e w' => e = .returned (.pointer (some ⟨w.heap.size, 0, none⟩)) ∧ w.alloc (.cells (rcells [] [] (.slice none 0 0) 0 0 false).toArray 63) = w' := by
  go_enter Try.func13, Try.ntmps13
  go_wp2
  go_ret
  exact ⟨rfl, rfl⟩
def NewRef (w : World) (s : DSt) (e : Ending) (w' : World) : Prop := ∃ b, e = .returned (.pointer (some ⟨b, 0, none⟩)) ∧ RAt w' (Fresh w w') b s ∧ Upd (fun _ => False) w w'
theorem rnew_ref (w : World) : Calls Try.prog 13 #[] w (NewRef w newSt) :=
  (rnew_any w).mono fun e w' ⟨he, hw⟩ => by
    subst hw
    exact ⟨_, he, ⟨.slice none 0 0, Row.new w _ _, Sl.nil_ _ _ _, ⟨Nat.le_refl _, by simp⟩, by simp [Value.ownBlock]⟩, (Upd.refl _ w).alloc _⟩

section
variable (b : Nat) (w : World) (now syn : List UInt8) (vp : Value) (n l : Int) (f : Bool) (h : RRow w b now syn vp n l f)
include h
theorem rsize_any : Calls Try.prog 28 #[.pointer (some ⟨b, 0, none⟩)] w fun e w' => e = .returned (.int .i64 now.length) ∧ w = w' := by
  have h0 := h.c0
  clear h
  go_enter Try.func28, Try.ntmps28
  go_wp2
  go_ret
  exact ⟨rfl, rfl⟩
theorem rcalls_any : Calls Try.prog 36 #[.pointer (some ⟨b, 0, none⟩)] w fun e w' => e = .returned (.int .i64 n) ∧ w = w' := by
  have h0 := h.c3
  clear h
  go_enter Try.func36, Try.ntmps36
  go_wp2
  go_ret
  exact ⟨rfl, rfl⟩
def RFailPost (b : Nat) (w : World) (now syn : List UInt8) (vp : Value) (n l : Int) (f : Bool) (e : Ending) (w' : World) : Prop := e = .returned (.tuple #[]) ∧ RRow w' b now syn vp n l f ∧ Only b w w'
theorem rfail_any (k : Int) : Calls Try.prog 32 #[.pointer (some ⟨b, 0, none⟩), .int .i64 k] w (RFailPost b w now syn vp n k (decide (0 ≤ k))) := by
  have h4 := h.c4
  have h5 := h.c5
  have f4 := h.fz 4 (by omega)
  have f5 := h.fz 5 (by omega)
  have H := Lib.hid h
  clear h
  go_enter Try.func32, Try.ntmps32
  go_wp2
  go_end0
  exact ⟨rfl, (H.out.set 5 (.bool (decide (0 ≤ k)))).set 4 _, (Only.set w b 5 _).trans (Only.set _ b 4 _)⟩
def ROffPost (b : Nat) (w : World) (now syn : List UInt8) (vp : Value) (n l : Int) (f : Bool) (e : Ending) (w' : World) : Prop := e = .returned (.bool false) ∧ RRow w' b now syn vp n l f ∧ Only b w w'
theorem roff_ok (hok : f = false ∨ l ≠ 0) (hn : 0 ≤ n) (hn2 : n ≤ 1000000000) (hl1 : -1000000000 ≤ l) (hl2 : l ≤ 9223372036854775807) :
    Calls Try.prog 40 #[.pointer (some ⟨b, 0, none⟩)] w (ROffPost b w now syn vp (n + 1) (l - 1) f) := by
  have h3 := h.c3
  have h4 := h.c4
  have h5 := h.c5
  have f3 := h.fz 3 (by omega)
  have f4 := h.fz 4 (by omega)
  have H := Lib.hid h
  clear h
  cases f with
  | false =>
    clear hok
    go_enter Try.func40, Try.ntmps40
    go_wp2
    go_ret
    exact ⟨rfl, (H.out.set 4 (.int .i64 (l - 1))).set 3 _, (Only.set w b 4 _).trans (Only.set _ b 3 _)⟩
  | true =>
    have hl0 : (l == 0) = false := by have := hok.resolve_left (by simp); simpa using this
    clear hok
    go_enter Try.func40, Try.ntmps40
    go_wp2
    go_ret
    exact ⟨rfl, (H.out.set 4 (.int .i64 (l - 1))).set 3 _, (Only.set w b 4 _).trans (Only.set _ b 3 _)⟩
end
theorem roff_off (b : Nat) (w : World) (now syn : List UInt8) (vp : Value) (n : Int) (h : RRow w b now syn vp n 0 true) :
    Calls Try.prog 40 #[.pointer (some ⟨b, 0, none⟩)] w fun e w' => e = .returned (.bool true) ∧ w = w' := by
  have h4 := h.c4
  have h5 := h.c5
  clear h
  go_enter Try.func40, Try.ntmps40
  go_wp2
  go_ret
  exact ⟨rfl, rfl⟩

def rsyncedSt (s : DSt) : DSt := { s with synced := s.now, pieces := [], calls := s.calls + 1, left := s.left - 1 }
def RPost (w : World) (F : Nat → Prop) (b : Nat) (s : DSt) (r : Int) (e : Ending) (w' : World) : Prop := e = .returned (.int .i64 r) ∧ RAt w' (Grow F w w') b s ∧ Upd F w w'

theorem rsync_off (b : Nat) (w : World) (now syn : List UInt8) (vp : Value) (n : Int) (h : RRow w b now syn vp n 0 true) :
    Calls Try.prog 30 #[.pointer (some ⟨b, 0, none⟩)] w fun e w' => e = .returned (.int .i64 70) ∧ w = w' := by
  go_enter Try.func30, Try.ntmps30
  go_wp2_with (go_at_call 40; refine (roff_off _ _ _ _ _ _ h).mono ?_; rintro e w' ⟨rfl, rfl⟩)
  go_ret
  exact ⟨rfl, rfl⟩

theorem rsync_ok (w : World) (F : Nat → Prop) (b : Nat) (s : DSt) (hd : RAt w F b s) (hn : 0 ≤ s.calls) (hn2 : s.calls ≤ 1000000000) (hok : s.failing = false ∨ s.left ≠ 0) (hl1 : -1000000000 ≤ s.left) (hl2 : s.left ≤ 9223372036854775807) :
    Calls Try.prog 30 #[.pointer (some ⟨b, 0, none⟩)] w (RPost w F b (rsyncedSt s) 0) := by
  obtain ⟨vp, hr, hs, hb, hp⟩ := hd
  go_enter Try.func30, Try.ntmps30
  go_wp2_with (go_at_call 40; go_must (refine (roff_ok b w _ _ vp _ _ _ hr hok hn hn2 hl1 hl2).mono ?_; rintro e w1 ⟨rfl, hr1, ho1⟩; have c0 := hr1.c0; have c1 := hr1.c1; have c2 := hr1.c2; have f1 := hr1.fz 1 (by omega); have f2 := hr1.fz 2 (by omega); have HR1 := Lib.hid hr1; clear hr1))
  go_ret
  have ho := (ho1.trans (Only.set w1 b 1 (.string ⟨s.now.toArray⟩))).trans (Only.set _ b 2 (.slice none 0 0))
  exact ⟨rfl, ⟨.slice none 0 0, (HR1.out.set 1 _).set 2 _, Sl.nil_ _ _ _, .inl hb, by simp [Value.ownBlock]⟩, ho.1.mono (fun k _ e => by rw [e]; exact hb)⟩
end Go.Proofs.Ytacghhgiilhkfaa
