/- More small facts for the laws' walks: the desk made, opened, nil disks. -/
import Derived.Test.YtacghhgiilhkfaaDesk3
namespace Go.Proofs.Ytacghhgiilhkfaa
set_option linter.unusedVariables false
open Go.RowKit

theorem desk_new {W w : World} {bd bm : Nat} {R : List Item} (h : Own W w (.ref bm newSt :: .disk bd newSt :: R)) :
    DeskAt W (w.alloc (.cells #[.pointer (some ⟨bd, 0, none⟩), .pointer (some ⟨bm, 0, none⟩)] 31)) w.heap.size 0 newSt R :=
  ⟨bd, bm, newSt, (h.newRow 31 #[.pointer (some ⟨bd, 0, none⟩), .pointer (some ⟨bm, 0, none⟩)]).swap2, Sim.new, Fit.new, Fit.new⟩
theorem own_zero {W w : World} {m : List Item} (h : Own W w m) :
    Own W (w.alloc (.cells #[.slice none 0 0, .slice none 0 0, .slice none 0 0, .int .i64 0, .bool false, .int .i64 0] 59)) (.disk w.heap.size newSt :: m) :=
  h.more ((Upd.refl _ w).alloc _) (dk_new w _ ⟨Nat.le_refl _, by simp⟩)
theorem own_crash_nil {W w : World} {m : List Item} (h : Own W w m) (v : Value) : Calls Try.prog 16 #[.pointer none, v] w (NPost W m (.disk · newSt)) :=
  (crash_nil w v).mono fun e w' ⟨b, he, hd, hu⟩ => ⟨b, he, h.more hu hd⟩
theorem own_read_nil {W w : World} {m : List Item} (h : Own W w m) (off k : Int) : Calls Try.prog 24 #[.pointer none, .int .i64 off, .int .i64 k] w (XPost W m (.string ⟨[].toArray⟩)) :=
  (read_nil w off k).mono fun e w' ⟨he, c, hw⟩ => ⟨he, by subst hw; exact h.far ((Upd.refl _ w).drewN c)⟩
theorem DeskAt.far {W w w' : World} {bx n : Nat} {s : DSt} {R : List Item} (h : DeskAt W w bx n s R) (hu : Upd (fun _ => False) w w') : DeskAt W w' bx n s R := by
  obtain ⟨bd, bm, s', h1, h2, h3, h4⟩ := h
  exact ⟨bd, bm, s', h1.far hu, h2, h3, h4⟩
theorem DeskAt.upd {W w : World} {bx n : Nat} {s : DSt} {R : List Item} (h : DeskAt W w bx n s R) : Upd (fun _ => False) W w := by
  obtain ⟨bd, bm, s', h1, _⟩ := h
  exact h1.upd
theorem own_rread' {W w : World} {m : List Item} (h : Own W w m) (i : Nat) {b : Nat} {s : DSt} (hi : m[i]? = some (.ref b s)) {n : Nat} (hf : Fit n s) {c : List UInt8} (hc : s.now = c) (off k : Int) (ho : off ≤ 9223372036854775807) (hk : k ≤ 9223372036854775807) :
    Calls Try.prog 26 #[.pointer (some ⟨b, 0, none⟩), .int .i64 off, .int .i64 k] w (XPost W m (.string ⟨(readL c off k).toArray⟩)) := by
  subst hc
  exact own_rread h i hi hf off k ho hk
theorem Own.front {W w : World} {m : List Item} (h : Own W w m) (i : Nat) {it : Item} (hi : m[i]? = some it) : Own W w (it :: m.eraseIdx i) := by
  refine h.pick (fun j => if j = 0 then i else if j - 1 < i then j - 1 else j) ?_ ?_
  · intro a b
    split <;> split <;> (try split) <;> (try split) <;> omega
  · intro j x hj
    cases j with
    | zero => cases hj; simpa using hi
    | succ j =>
      have hj2 : (m.eraseIdx i)[j]? = some x := hj
      rw [List.getElem?_eraseIdx] at hj2
      rw [if_neg (by omega)]
      split at hj2
      · rw [if_pos (by omega)]; simpa using hj2
      · rw [if_neg (by omega)]; exact hj2
theorem repeated_y (w : World) (n : Nat) (hn : n ≤ 1000000) : Calls Try.prog 20 #[.int .u8 121, .int .i64 n] w (TextPost w (List.replicate n 121)) := repeated_any w 121 n hn
theorem repeated_q (w : World) (n : Nat) (hn : n ≤ 1000000) : Calls Try.prog 20 #[.int .u8 113, .int .i64 n] w (TextPost w (List.replicate n 113)) := repeated_any w 113 n hn
theorem repeated_b (w : World) (n : Nat) (hn : n ≤ 1000000) : Calls Try.prog 20 #[.int .u8 238, .int .i64 n] w (TextPost w (List.replicate n 238)) := repeated_any w 238 n hn
theorem in64_0 : in64 0 := by unfold in64; omega
theorem in64_7 : in64 7 := by unfold in64; omega
end Go.Proofs.Ytacghhgiilhkfaa
