/- disk: Sync. -/
import Derived.Test.YtcbpgmoegfkhnaaDisk6
namespace Go.Proofs.Ytcbpgmoegfkhnaa
set_option linter.unusedVariables false
open Go.RowKit

theorem Sl.to {w : World} {A : Option Addr} {e size n c k : Nat} {xs : List Value} (h : Sl w (.slice A n c) e size n xs) (hk : k ≤ n) (h0 : A = none → k = 0 ∧ c = 0) : Sl w (.slice A k c) e size k (xs.take (k * size)) := by
  have hm : k * size ≤ n * size := Nat.mul_le_mul_right _ hk
  refine ⟨by rw [List.length_take, h.1]; omega, ?_⟩
  rcases h.2 with ⟨hv, rfl⟩ | ⟨g, o, cap, cs, hv, hr, hnc, hcm, hl, ht⟩
  · cases hv
    obtain ⟨rfl, _⟩ := h0 rfl
    exact .inl ⟨rfl, rfl⟩
  · cases hv
    exact .inr ⟨g, o, c, cs, rfl, hr, by omega, hcm, hl, by rw [← ht, List.take_take, Nat.min_eq_left hm]⟩
theorem Sl.none0 {w : World} {e size n c : Nat} {xs : List Value} (h : Sl w (.slice none n c) e size n xs) : n = 0 ∧ c = 0 ∧ xs = [] := by
  rcases h.2 with ⟨hv, rfl⟩ | ⟨g, o, cap, cs, hv, _⟩
  · cases hv
    exact ⟨rfl, rfl, List.eq_nil_of_length_eq_zero (by simpa using h.1)⟩
  · cases hv

theorem own_same {A : Option Addr} {n c n' c' : Nat} : (Value.slice A n c).ownBlock = (Value.slice A n' c').ownBlock := by cases A <;> rfl

def syncedSt (s : DSt) : DSt := { s with synced := s.now, pieces := [], calls := s.calls + 1, left := if s.failing then s.left - 1 else s.left }

theorem sync_nil (w : World) : Calls Try.prog 22 #[.pointer none] w fun e w' => e = .returned (.int .i64 1) ∧ w = w' := by
  go_enter Try.func22, Try.ntmps22
  go_wp2
  go_ret
  exact ⟨rfl, rfl⟩
theorem sync_off (w : World) (b : Nat) (vn vs vp : Value) (n : Int) (h : DRow w b vn vs vp n true 0) :
    Calls Try.prog 22 #[.pointer (some ⟨b, 0, none⟩)] w fun e w' => e = .returned (.int .i64 70) ∧ w = w' := by
  go_enter Try.func22, Try.ntmps22
  go_wp2_with (go_at_call 34; refine (call_off _ _ _ _ _ _ h).mono ?_; rintro e w' ⟨rfl, rfl⟩)
  go_ret
  exact ⟨rfl, rfl⟩

/-- What the append to the synced bytes has left, stored. -/
theorem Dk.sync {w w0 W0 w2 : World} {F : Nat → Prop} {b : Nat} {s : DSt} {vn vs vp vs0 vs' : Value} {cells : List Value} {n l : Int} {f : Bool}
    (h : Dk w F b s vn vs vp cells) (hr : DRow w0 b vn vs vp n f l) (ho : Only b w w0) (hu : Upd (fun _ => False) w0 W0) (hv : vs0.ownBlock = vs.ownBlock) (hA : Appended W0 vs0 5 1 s.now.length (bvs s.now) vs' w2) :
    DRow w2 b vn vs vp n f l ∧ DRow (w2.setCell ⟨b, 1, none⟩ vs') b vn vs' vp n f l ∧
    (∀ w3, DRow w3 b vn vs' (.slice none 0 0) n f l → Only b (w2.setCell ⟨b, 1, none⟩ vs') w3 → DiskAt w3 (Grow F w w3) b { s with synced := s.now, pieces := [], calls := n, failing := f, left := l } ∧ Upd F w w3) := by
  obtain ⟨n1, n2, n3, n4, n5⟩ := h.nb
  have hrW : DRow W0 b vn vs vp n f l := hr.upd hu id
  have hr2 : DRow w2 b vn vs vp n f l := hrW.upd hA.upd (by rw [hv]; exact n2)
  have hr3 : DRow (w2.setCell ⟨b, 1, none⟩ vs') b vn vs' vp n f l := hr2.set 1 vs'
  refine ⟨hr2, hr3, fun w3 hr4 ho4 => ?_⟩
  have hnb : vs'.ownBlock ≠ some b := fun e => by obtain ⟨cs, hrr⟩ := hA.sl.row e; exact hrr.ne_ hr2 (by decide) rfl
  have ho3 : Only b w2 w3 := (Only.set w2 b 1 vs').trans ho4
  have hle : w.heap.size ≤ W0.heap.size := by rw [← ho.2]; exact hu.size
  have hbl : ∀ k, vs'.ownBlock = some k → vs.ownBlock = some k ∨ w.heap.size ≤ k := fun k hk => by
    rcases hA.at_ with e | e
    · exact .inl (by rw [← hv, ← e.1]; exact hk)
    · rw [e.1] at hk; cases hk; exact .inr hle
  have hall : Upd (fun k => k = b ∨ vs.ownBlock = some k) w w3 :=
    (((ho.1.mono (T := fun k => k = b ∨ vs.ownBlock = some k) (fun _ _ e => .inl e)).trans hu (fun _ _ e => e.elim)).trans hA.upd (fun _ _ e => .inr (by rw [← hv]; exact e))).trans ho3.1 (fun _ _ e => .inl e)
  refine ⟨⟨vn, vs', .slice none 0 0, [], hr4, h.now.upd hall ?_, hA.sl.upd ho3.1 (fun k hk e => hnb (by rw [hk, e])), Sl.nil_ _ _ _, ⟨rfl, by simp⟩, .inl h.fb, fun k hk => ⟨.inl (h.fn k hk).1, fun e => ?_⟩, fun k hk => ?_, by simp [Value.ownBlock]⟩, hall.mono ?_⟩
  · rintro k hk (rfl | e)
    · exact n1 hk
    · exact (h.fn k hk).2 e
  · rcases hbl k e with e' | e'
    · exact (h.fn k hk).2 e'
    · have := h.now.lt hk; omega
  · rcases hbl k hk with e | e
    · exact .inl (h.fs k e)
    · exact .inr ⟨e, by rw [ho3.2]; exact hA.sl.lt hk⟩
  · rintro k _ (rfl | e)
    · exact h.fb
    · exact h.fs k e

set_option maxHeartbeats 2000000 in
theorem sync_ok (w : World) (F : Nat → Prop) (b : Nat) (s : DSt) (hd : DiskAt w F b s)
    (hn : 0 ≤ s.calls) (hn2 : s.calls ≤ 1000000000) (hok : s.failing = false ∨ s.left ≠ 0) (hl1 : -1000000000 ≤ s.left) (hl2 : s.left ≤ 9223372036854775807) (hnow : s.now.length ≤ 16777216) :
    Calls Try.prog 22 #[.pointer (some ⟨b, 0, none⟩)] w (WritePost w F b (syncedSt s) 0) := by
  obtain ⟨vn, vs, vp, cells, hk⟩ := hd
  obtain ⟨As, cs, rfl, hcs⟩ := hk.syn.form
  have hrow := hk.row
  have hto : Sl w (.slice As 0 cs) 5 1 0 [] := by
    have := hk.syn.to (k := 0) (Nat.zero_le _) (fun e => by subst e; exact ⟨rfl, (hk.syn.none0).2.1⟩)
    simpa using this
  have htw : ∀ w1, Only b w w1 → Sl w1 (.slice As 0 cs) 5 1 0 [] := fun w1 ho => hto.upd ho.1 (fun k hk' e => hk.nb.2.1 (by subst e; rw [← hk']; exact own_same))
  have hnw : ∀ w1, Only b w w1 → Rd w1 vn 1 s.now.length (bvs s.now) := fun w1 ho => (hk.now.upd ho.1 (fun k hk' e => hk.nb.1 (by rw [← e]; exact hk'))).rd
  have HTW := Lib.hid htw
  have HNW := Lib.hid hnw
  have HK := Lib.hid hk
  clear hk hto htw hnw
  have hmap : As.map (fun x => x) = As := by cases As <;> rfl
  go_enter Try.func22, Try.ntmps22
  go_wp2_with (first
    | (go_at_call 34; go_must (refine (call_ok b w vn _ vp s.calls s.left s.failing hrow hn hn2 hok hl1 hl2).mono ?_); rintro e w1 ⟨rfl, hr1, ho1⟩; have HR1 := Lib.hid hr1; have c0 := hr1.c0; have c1 := hr1.c1; clear hr1 hrow))
  have hod : Only b w w1.drew := ⟨ho1.1.drew, ho1.2⟩
  go_region_law ((refine step_of rfl (wp_append_sl (.tmp 16) (.tmp 20) _ rfl T_bytes rfl (v := .slice As 0 cs) (by exact HTW.out _ hod) rfl (by exact HNW.out _ hod) (bvs_ones _) (by unfold maxLen; omega) (by omega) ?_); intro vs' w2 hA; go_must (obtain ⟨A2, c2, rfl, hc2⟩ := hA.sl.form); go_must (have hS := Dk.sync HK.out HR1.out ho1 ((Upd.refl (fun _ => False) w1).drew) own_same (by simpa using hA)); have e1 := hS.1.c1; have e2 := hS.1.fz 1 (by omega)))
  all_goals go_wp2_with (go_at_call 36; refine (settle_any b _ vn _ vp _ _ _ hS.2.1).mono ?_; rintro e w3 ⟨rfl, hr3, ho3⟩)
  all_goals go_ret
  all_goals exact ⟨rfl, hS.2.2 _ hr3 ho3⟩
end Go.Proofs.Ytcbpgmoegfkhnaa
