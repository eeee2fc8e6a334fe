/- disk: the small methods, over a disk whose block is known. -/
import Derived.Test.YtcbpgmoegfkhnaaPut
namespace Go.Proofs.Ytcbpgmoegfkhnaa
set_option linter.unusedVariables false
open Go.RowKit

abbrev dcells (vn vs vp : Value) (n : Int) (f : Bool) (l : Int) : List Value := [vn, vs, vp, .int .i64 n, .bool f, .int .i64 l]
def DRow (w : World) (b : Nat) (vn vs vp : Value) (n : Int) (f : Bool) (l : Int) : Prop := Row w b 57 (dcells vn vs vp n f l)

section
variable {w : World} {b : Nat} {vn vs vp : Value} {n : Int} {f : Bool} {l : Int} (h : DRow w b vn vs vp n f l)
include h
theorem DRow.c0 : w.cell? ⟨b, 0, none⟩ = some vn := h.cell 0
theorem DRow.c1 : w.cell? ⟨b, 1, none⟩ = some vs := h.cell 1
theorem DRow.c2 : w.cell? ⟨b, 2, none⟩ = some vp := h.cell 2
theorem DRow.c3 : w.cell? ⟨b, 3, none⟩ = some (.int .i64 n) := h.cell 3
theorem DRow.c4 : w.cell? ⟨b, 4, none⟩ = some (.bool f) := h.cell 4
theorem DRow.c5 : w.cell? ⟨b, 5, none⟩ = some (.int .i64 l) := h.cell 5
theorem DRow.fz (j : Nat) (hj : j < 6) : w.frozen? ⟨b, j, none⟩ = false := h.frozen hj
end

theorem call_off (b : Nat) (w : World) (vn vs vp : Value) (n : Int) (h : DRow w b vn vs vp n true 0) :
    Calls Try.prog 34 #[.pointer (some ⟨b, 0, none⟩)] w fun e w' => e = .returned (.int .i64 70) ∧ w = w' := by
  have h4 := h.c4
  have h5 := h.c5
  clear h
  go_enter Try.func34, Try.ntmps34
  go_wp2
  go_ret
  exact ⟨rfl, rfl⟩

def Only (b : Nat) (w w' : World) : Prop := Upd (· = b) w w' ∧ w'.heap.size = w.heap.size
theorem Only.set (w : World) (b j : Nat) (u : Value) : Only b w (w.setCell ⟨b, j, none⟩ u) := ⟨(Upd.refl (· = b) w).setCell (p := ⟨b, j, none⟩) (fun _ => rfl) u, by simp⟩
theorem Only.trans {b : Nat} {w w' w'' : World} (h : Only b w w') (k : Only b w' w'') : Only b w w'' := ⟨h.1.trans k.1 (fun _ _ h => h), k.2.trans h.2⟩
theorem Only.refl (b : Nat) (w : World) : Only b w w := ⟨Upd.refl _ _, rfl⟩

def CallPost (b : Nat) (w : World) (vn vs vp : Value) (n : Int) (f : Bool) (l : Int) (e : Ending) (w' : World) : Prop := e = .returned (.int .i64 0) ∧ DRow w' b vn vs vp n f l ∧ Only b w w'

theorem call_calm (b : Nat) (w : World) (vn vs vp : Value) (n l : Int) (h : DRow w b vn vs vp n false l) (hn : 0 ≤ n) (hn2 : n ≤ 1000000000) :
    Calls Try.prog 34 #[.pointer (some ⟨b, 0, none⟩)] w (CallPost b w vn vs vp (n + 1) false l) := by
  have h3 := h.c3
  have h4 := h.c4
  have f3 := h.fz 3 (by omega)
  have H := Lib.hid h
  clear h
  go_enter Try.func34, Try.ntmps34
  go_wp2
  go_ret
  exact ⟨rfl, H.out.set 3 _, Only.set w b 3 _⟩

theorem call_left (b : Nat) (w : World) (vn vs vp : Value) (n l : Int) (h : DRow w b vn vs vp n true l) (hn : 0 ≤ n) (hn2 : n ≤ 1000000000) (hl : (l == 0) = false) (hl1 : -1000000000 ≤ l) (hl2 : l ≤ 9223372036854775807) :
    Calls Try.prog 34 #[.pointer (some ⟨b, 0, none⟩)] w (CallPost b w vn vs vp (n + 1) true (l - 1)) := by
  have h3 := h.c3
  have h4 := h.c4
  have h5 := h.c5
  have f3 := h.fz 3 (by omega)
  have f5 := h.fz 5 (by omega)
  have H := Lib.hid h
  clear h
  go_enter Try.func34, Try.ntmps34
  go_wp2
  go_ret
  exact ⟨rfl, (H.out.set 5 (.int .i64 (l - 1))).set 3 _, (Only.set w b 5 _).trans (Only.set _ b 3 _)⟩

theorem size_any (b : Nat) (w : World) (A : Option Addr) (m c : Nat) (vs vp : Value) (n : Int) (f : Bool) (l : Int) (h : DRow w b (.slice A m c) vs vp n f l) :
    Calls Try.prog 25 #[.pointer (some ⟨b, 0, none⟩)] w fun e w' => e = .returned (.int .i64 m) ∧ w = w' := by
  have h0 := h.c0
  clear h
  go_enter Try.func25, Try.ntmps25
  go_wp2
  go_ret
  exact ⟨rfl, rfl⟩
theorem size_nil (w : World) :
    Calls Try.prog 25 #[.pointer none] w fun e w' => e = .returned (.int .i64 0) ∧ w = w' := by
  go_enter Try.func25, Try.ntmps25
  go_wp2
  go_ret
  exact ⟨rfl, rfl⟩
def FailPost (b : Nat) (w : World) (vn vs vp : Value) (n : Int) (f : Bool) (l : Int) (e : Ending) (w' : World) : Prop := e = .returned (.tuple #[]) ∧ DRow w' b vn vs vp n f l ∧ Only b w w'
theorem fail_any (b : Nat) (w : World) (vn vs vp : Value) (n : Int) (f : Bool) (l : Int) (h : DRow w b vn vs vp n f l) (k : Int) :
    Calls Try.prog 19 #[.pointer (some ⟨b, 0, none⟩), .int .i64 k] w (FailPost b w vn vs vp n (decide (-1 < k)) k) := by
  have h4 := h.c4
  have h5 := h.c5
  have f4 := h.fz 4 (by omega)
  have f5 := h.fz 5 (by omega)
  have H := Lib.hid h
  clear h
  go_enter Try.func19, Try.ntmps19
  go_wp2
  go_end0
  exact ⟨rfl, (H.out.set 4 _).set 5 _, (Only.set w b 4 _).trans (Only.set _ b 5 _)⟩
theorem fail_nil (w : World) (k : Int) :
    Calls Try.prog 19 #[.pointer none, .int .i64 k] w fun e w' => e = .returned (.tuple #[]) ∧ w = w' := by
  go_enter Try.func19, Try.ntmps19
  go_wp2
  go_end0
  exact ⟨rfl, rfl⟩
theorem settle_any (b : Nat) (w : World) (vn vs vp : Value) (n : Int) (f : Bool) (l : Int) (h : DRow w b vn vs vp n f l) :
    Calls Try.prog 36 #[.pointer (some ⟨b, 2, none⟩)] w (FailPost b w vn vs (.slice none 0 0) n f l) := by
  have h2 := h.c2
  have f2 := h.fz 2 (by omega)
  have H := Lib.hid h
  clear h
  go_enter Try.func36, Try.ntmps36
  go_wp2
  go_end0
  exact ⟨rfl, H.out.set 2 _, Only.set w b 2 _⟩
theorem new_any (w : World) :
    Calls Try.prog 10 #[] w fun e w' => e = .returned (.pointer (some ⟨w.heap.size, 0, none⟩)) ∧ w.alloc (.cells (dcells (.slice none 0 0) (.slice none 0 0) (.slice none 0 0) 0 false 0).toArray 57) = w' := by
  go_enter Try.func10, Try.ntmps10
  go_wp2
  go_ret
  exact ⟨rfl, rfl⟩
end Go.Proofs.Ytcbpgmoegfkhnaa
