/- disk: a piece is added. -/
import Derived.Test.YtcbpgmoegfkhnaaDisk2
import Derived.Deep.RegionLaw
namespace Go.Proofs.Ytcbpgmoegfkhnaa
set_option linter.unusedVariables false
open Go.RowKit

theorem T_pieces : SlT Try.prog 53 68 2 32 (.agg #[.int .i64 0, .slice none 0 0]) := SlT.of Try.underlying53 (by kernel_rfl) rfl

theorem Rd.of_new {w : World} {e : TypeId} {cs : Array Value} {g n size : Nat} (h : Row w g e cs.toList) (hn : cs.size = n * size) : Rd w (.slice (some ⟨g, 0, none⟩) n n) size n cs.toList := by
  refine ⟨by simpa using hn, _, _, rfl, Nat.le_refl _, by simp, ?_⟩
  rintro ad hA
  cases hA
  exact ⟨rfl, fun j u hu => by rw [Nat.zero_add, h.cell, hu]⟩
theorem Row.new_at (w : World) (e : TypeId) (cs : Array Value) (g : Nat) (hg : g = w.heap.size) : Row (w.alloc (.cells cs e)) g e cs.toList := by subst hg; exact Row.new w e cs
theorem Sl.far {w w' : World} {v : Value} {e : TypeId} {size n : Nat} {xs : List Value} (h : Sl w v e size n xs) (hu : Upd (fun _ => False) w w') : Sl w' v e size n xs := h.upd hu (fun _ _ => id)

def AddPost (b : Nat) (w : World) (vn vs vp : Value) (n : Int) (f : Bool) (l : Int) (m : Nat) (cells : List Value) (e : Ending) (w' : World) : Prop :=
  e = .returned (.tuple #[]) ∧ ∃ vp', DRow w' b vn vs vp' n f l ∧ Sl w' vp' 68 2 m cells ∧ (vp'.ownBlock = vp.ownBlock ∨ ∃ g, vp'.ownBlock = some g ∧ w.heap.size ≤ g) ∧ Upd (fun k => k = b ∨ vp.ownBlock = some k) w w'

theorem AddPost.size {b : Nat} {w w' : World} {vn vs vp : Value} {n l : Int} {f : Bool} {m : Nat} {cells : List Value} {e : Ending} (h : AddPost b w vn vs vp n f l m cells e w') : w.heap.size ≤ w'.heap.size := by
  obtain ⟨_, _, _, _, _, h⟩ := h
  exact h.size
theorem add_mid {b : Nat} {w W0 w1 : World} {vn vs vp vp' : Value} {n : Int} {f : Bool} {l : Int} {m : Nat} {cells : List Value} (h : DRow w b vn vs vp n f l) (hbp : vp.ownBlock ≠ some b) (hU : Upd (fun _ => False) w W0)
    (hA : Appended W0 vp 68 2 m cells vp' w1) : DRow w1 b vn vs vp n f l ∧ Upd (fun k => k = b ∨ vp.ownBlock = some k) w w1 := by
  have h1 : DRow W0 b vn vs vp n f l := Row.upd h hU id
  have h2 : DRow w1 b vn vs vp n f l := Row.upd h1 hA.upd hbp
  exact ⟨h2, (hU.mono (T := fun k => k = b ∨ vp.ownBlock = some k) (fun _ _ h => h.elim)).trans hA.upd (fun _ _ h => .inr h)⟩

theorem add_end {b : Nat} {w W0 w1 : World} {vn vs vp vp' : Value} {n : Int} {f : Bool} {l : Int} {m : Nat} {cells : List Value} (hb : b < w.heap.size)
    (hz : w.heap.size ≤ W0.heap.size) (hA : Appended W0 vp 68 2 m cells vp' w1) (hM : DRow w1 b vn vs vp n f l ∧ Upd (fun k => k = b ∨ vp.ownBlock = some k) w w1) :
    AddPost b w vn vs vp n f l m cells (.returned (.tuple #[])) (w1.setCell ⟨b, 2, none⟩ vp') := by
  have hne : vp'.ownBlock ≠ some b := fun e => by
    obtain ⟨cs, hr⟩ := hA.sl.row e
    exact hr.ne_ hM.1 (by decide) rfl
  refine ⟨rfl, vp', hM.1.set 2 _, hA.sl.upd ((Upd.refl (· = b) w1).setCell (p := ⟨b, 2, none⟩) (fun _ => rfl) _) (fun k hk e => hne (by rw [hk, e])), ?_, hM.2.trans ((Upd.refl (· = b) w1).setCell (p := ⟨b, 2, none⟩) (fun _ => rfl) _) (fun _ _ h => .inl h)⟩
  rcases hA.at_ with h | h
  · exact .inl h.1
  · exact .inr ⟨_, h.1, hz⟩

set_option maxHeartbeats 1000000 in
theorem add_any (b : Nat) (w : World) (vn vs vp : Value) (n : Int) (f : Bool) (l : Int) (h : DRow w b vn vs vp n f l) (m : Nat) (cells : List Value) (hs : Sl w vp 68 2 m cells) (hm : m ≤ 1000000000)
    (off : Int) (A : Option Addr) (tn tc : Nat) :
    Calls Try.prog 35 #[.pointer (some ⟨b, 2, none⟩), .agg #[.int .i64 off, .slice A tn tc]] w (AddPost b w vn vs vp n f l (m + 1) (cells ++ [.int .i64 off, .slice A tn tc])) := by
  have h2 := h.c2
  have f2 := h.fz 2 (by omega)
  have hb := h.lt
  have hbp : vp.ownBlock ≠ some b := fun e => by
    obtain ⟨cs, hr⟩ := hs.row e
    exact hr.ne_ h (by decide) rfl
  have H := Lib.hid h
  clear h
  go_enter Try.func35, Try.ntmps35
  go_wp2_with fail
  go_region_law (((refine step_of rfl (wp_append_sl (.tmp 8) (.tmp 10) _ rfl T_pieces (v := vp) rfl (by exact hs.far (((Upd.refl _ w).alloc _).alloc _).drew) (m := 1) (news := [.int .i64 off, .slice A tn tc]) rfl (by exact (Rd.of_new (cs := #[.int .i64 off, .slice A tn tc]) (Row.new_at _ _ _ _ (by simp)) rfl)) (by intro u hu; simp at hu; rcases hu with rfl | rfl <;> rfl) (by unfold maxLen; omega) (by omega) ?_)); intro vp' w1 hA; go_must (obtain ⟨A1, c1, rfl, hc1⟩ := hA.sl.form); have hM := add_mid H.out hbp ((((Upd.refl _ w).alloc _).alloc _).drew) hA; have g2 := hM.1.c2; have gf := hM.1.fz 2 (by omega)))
  all_goals go_end0
  all_goals exact add_end hb (by simp; omega) hA hM
end Go.Proofs.Ytcbpgmoegfkhnaa
