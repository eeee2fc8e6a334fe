/- types: the clauses, pure, Check (printed by gen-t6.py). -/
import Derived.Test.YtaejnhgnacgheaaT5
import Derived.Deep.CutRange
namespace Go.Proofs.Ytaejnhgnacgheaa
set_option linter.unusedVariables false
set_option linter.unusedSimpArgs false
open Go.RowKit

def foreignL (d : DrawL) : Bool :=
  (decide (d.kind ≠ 1) && (decide (d.pool ≠ 0) || decide (d.pick ≠ 0) || decide (0 < d.tiers.length) || d.roll)) || (decide (d.kind ≠ 2) && (decide (0 < d.places.length) || decide (d.cls ≠ 0))) || (decide (d.kind ≠ 3) && (decide (d.size ≠ 0) || decide (0 < d.quotas.length)))

/-- the clauses -/
structure ClauseL where
  name : List UInt8
  kind : Int
  fn : Nat
  err : DrawL → Int
def clausesL : List ClauseL := [
  ⟨[110, 97, 109, 101], 0, 50, fun d => unl (isWord d.name) 13⟩,
  ⟨[107, 105, 110, 100], 0, 52, fun d => unl (inR d.kind 1 3 && !foreignL d) 14⟩,
  ⟨[114, 111, 117, 110, 100], 0, 54, fun d => unl (inR d.round 1 1000000000) 15⟩,
  ⟨[112, 114, 105, 99, 101], 0, 55, fun d => unl (inR d.price 0 1000000) 15⟩,
  ⟨[98, 97, 114], 0, 56, fun d => firstL [unl (decide ((d.barred.length : Int) ≤ 40)) 2, unl (!rep d.barred) 33]⟩,
  ⟨[112, 111, 111, 108], 1, 58, fun d => unl (inR d.pool 1 60) 15⟩,
  ⟨[112, 105, 99, 107], 1, 59, fun d => unl (inR d.pick 1 (if d.pool < 10 then d.pool else 10)) 15⟩,
  ⟨[116, 105, 101, 114], 1, 60, tiersL⟩,
  ⟨[112, 108, 97, 99, 101], 2, 61, placesL⟩,
  ⟨[99, 108, 97, 115, 115], 2, 62, fun d => unl (inR d.cls 0 9) 15⟩,
  ⟨[115, 105, 122, 101], 3, 63, fun d => unl (inR d.size 1 40) 15⟩,
  ⟨[113, 117, 111, 116, 97], 3, 64, quotasL⟩]
def clauseE (c : ClauseL) : List Value := [.string ⟨c.name.toArray⟩, .int .i64 c.kind, .func (.func c.fn) #[] #[]]

theorem c3_any (w : World) (d : DrawL) (vt vp vq vb : Value) (h : DrawIn w d vt vp vq vb) : Calls Try.prog 54 #[dval d vt vp vq vb] w (Gives w (.int .i64 (unl (inR d.round 1 1000000000) 15))) := by
  clear h
  go_enter Try.func54, Try.ntmps54
  go_wp2_with (first
    | (go_at_call 42; refine (within_any _ _ _ _).mono ?_; rintro e wa ⟨rfl, rfl⟩)
    | (go_at_call 41; refine (unless_any _ _ _).mono ?_; rintro e wa ⟨rfl, rfl⟩))
  go_ret
  exact ⟨rfl, (Upd.refl _ w).alloc _⟩

theorem c4_any (w : World) (d : DrawL) (vt vp vq vb : Value) (h : DrawIn w d vt vp vq vb) : Calls Try.prog 55 #[dval d vt vp vq vb] w (Gives w (.int .i64 (unl (inR d.price 0 1000000) 15))) := by
  clear h
  go_enter Try.func55, Try.ntmps55
  go_wp2_with (first
    | (go_at_call 42; refine (within_any _ _ _ _).mono ?_; rintro e wa ⟨rfl, rfl⟩)
    | (go_at_call 41; refine (unless_any _ _ _).mono ?_; rintro e wa ⟨rfl, rfl⟩))
  go_ret
  exact ⟨rfl, (Upd.refl _ w).alloc _⟩

theorem c6_any (w : World) (d : DrawL) (vt vp vq vb : Value) (h : DrawIn w d vt vp vq vb) : Calls Try.prog 58 #[dval d vt vp vq vb] w (Gives w (.int .i64 (unl (inR d.pool 1 60) 15))) := by
  clear h
  go_enter Try.func58, Try.ntmps58
  go_wp2_with (first
    | (go_at_call 42; refine (within_any _ _ _ _).mono ?_; rintro e wa ⟨rfl, rfl⟩)
    | (go_at_call 41; refine (unless_any _ _ _).mono ?_; rintro e wa ⟨rfl, rfl⟩))
  go_ret
  exact ⟨rfl, (Upd.refl _ w).alloc _⟩

theorem c8_any (w : World) (d : DrawL) (vt vp vq vb : Value) (h : DrawIn w d vt vp vq vb) : Calls Try.prog 62 #[dval d vt vp vq vb] w (Gives w (.int .i64 (unl (inR d.cls 0 9) 15))) := by
  clear h
  go_enter Try.func62, Try.ntmps62
  go_wp2_with (first
    | (go_at_call 42; refine (within_any _ _ _ _).mono ?_; rintro e wa ⟨rfl, rfl⟩)
    | (go_at_call 41; refine (unless_any _ _ _).mono ?_; rintro e wa ⟨rfl, rfl⟩))
  go_ret
  exact ⟨rfl, (Upd.refl _ w).alloc _⟩

theorem c9_any (w : World) (d : DrawL) (vt vp vq vb : Value) (h : DrawIn w d vt vp vq vb) : Calls Try.prog 63 #[dval d vt vp vq vb] w (Gives w (.int .i64 (unl (inR d.size 1 40) 15))) := by
  clear h
  go_enter Try.func63, Try.ntmps63
  go_wp2_with (first
    | (go_at_call 42; refine (within_any _ _ _ _).mono ?_; rintro e wa ⟨rfl, rfl⟩)
    | (go_at_call 41; refine (unless_any _ _ _).mono ?_; rintro e wa ⟨rfl, rfl⟩))
  go_ret
  exact ⟨rfl, (Upd.refl _ w).alloc _⟩

theorem c1_any (w : World) (d : DrawL) (vt vp vq vb : Value) (h : DrawIn w d vt vp vq vb) : Calls Try.prog 50 #[dval d vt vp vq vb] w (Gives w (.int .i64 (unl (isWord d.name) 13))) := by
  have hc := word_any (w.alloc (.cells (dcells d vt vp vq vb).toArray 30)) d.name h.ok.name
  have HC := Lib.hid hc
  clear h hc
  go_enter Try.func50, Try.ntmps50
  go_wp2_with (first
    | (show Calls _ _ _ (World.alloc _ _) _; refine HC.out.mono ?_; rintro e w1 ⟨rfl, hb⟩; have HB := Lib.hid hb; clear hb)
    | (show Calls _ _ _ w1 _; refine (unless_any _ _ _).mono ?_; rintro e wa ⟨rfl, rfl⟩))
  go_ret
  exact ⟨rfl, Kp.trans ((Upd.refl _ w).alloc _) HB.out⟩
theorem c7_any (w : World) (d : DrawL) (vt vp vq vb : Value) (h : DrawIn w d vt vp vq vb) : Calls Try.prog 59 #[dval d vt vp vq vb] w (Gives w (.int .i64 (unl (inR d.pick 1 (if d.pool < 10 then d.pool else 10)) 15))) := by
  clear h
  obtain ⟨m, hm⟩ : ∃ m, (if d.pool < 10 then d.pool else 10) = m := ⟨_, rfl⟩
  rw [hm]
  have HM := Lib.hid hm
  clear hm
  go_enter Try.func59, Try.ntmps59
  go_wp2_with (first
    | (show wpList _ _ _ (⟨some 7, _, _, _, _, _⟩ :: _) _ _; refine wpList_min rfl _ _ _ rfl rfl rfl HM.out ?_)
    | (go_at_call 42; refine (within_any _ _ _ _).mono ?_; rintro e wa ⟨rfl, rfl⟩)
    | (go_at_call 41; refine (unless_any _ _ _).mono ?_; rintro e wa ⟨rfl, rfl⟩))
  go_ret
  exact ⟨rfl, (Upd.refl _ w).alloc _⟩
theorem c5_any (w : World) (d : DrawL) (vt vp vq vb : Value) (h : DrawIn w d vt vp vq vb) : Calls Try.prog 56 #[dval d vt vp vq vb] w (Gives w (.int .i64 (firstL [unl (decide ((d.barred.length : Int) ≤ 40)) 2, unl (!rep d.barred) 33]))) := by
  have hl := h.ok.barred
  have hb1 := h.ok.bar
  have hbb := h.b
  obtain ⟨A, c, rfl, hA⟩ := h.b
  have HL : Hid (Nums w (.slice A d.barred.length c) d.barred) := Lib.hid hbb
  have HB1 := Lib.hid hb1
  have HLL := Lib.hid hl
  obtain ⟨n, hn⟩ : ∃ n, n = d.barred.length := ⟨_, rfl⟩
  have HN := Lib.hid hn
  obtain ⟨br, hbr⟩ : ∃ b, b = rep d.barred := ⟨_, rfl⟩
  have HBR := Lib.hid hbr
  rw [← hn, ← hbr]
  rw [← hn] at HL
  clear hl hb1 hbb hA h hbr hn
  have hU : Hid (Kp w (w.alloc (.cells (dcells d vt vp vq (.slice A n c)).toArray 30))) := Lib.hid ((Upd.refl _ w).alloc _)
  obtain ⟨w1, hw1⟩ : ∃ w1, w1 = w.alloc (.cells (dcells d vt vp vq (.slice A n c)).toArray 30) := ⟨_, rfl⟩
  rw [← hw1] at hU
  have c12 : w1.cell? ⟨w.heap.size, 12, none⟩ = some (.slice A n c) := by rw [hw1]; simp
  go_enter Try.func56, Try.ntmps56
  go_wp2_with (fail)
  simp only [dcells] at hw1
  rw [← hw1]
  clear hw1
  go_region_held3 (fun w' => w'.cell? ⟨w.heap.size, 12, none⟩ = some (.slice A n c)) (first | exact c12 | go_keep) ((first
    | (go_at_call 41; refine (unless_any _ _ _).mono ?_; rintro e wa ⟨rfl, rfl⟩)
    | (go_at_call 57; have hc := twiceI_any w1.drew (.slice A n c) d.barred (HL.out.upd (Kp.drewR hU.out)) (by have := HLL.out; omega) HB1.out; rw [← HBR.out] at hc; refine hc.mono ?_; clear hc; rintro e w2 ⟨rfl, hb⟩; have HB2 : Hid (Kp w w2) := Lib.hid (Kp.trans (Kp.drewR hU.out) hb); have c12 := hb.cellAt (show w1.drew.cell? ⟨w.heap.size, 12, none⟩ = some (.slice A n c) from c12); clear hb)
    | (go_at_call 40; refine (first_any _ _ [unl (decide ((n : Int) ≤ 40)) 2, unl (!br) 33] (nums2 w2 34 _ _) two_len).mono ?_; rintro e w5 ⟨rfl, hb⟩; have HB5 : Hid (Kp w w5) := Lib.hid (HB2.out.trans (Kp.trans ((Upd.refl _ w2).alloc _) hb)); have c12 := hb.cellAt (World.alloc_cell_old c12); clear hb)))
  all_goals go_wp2
  all_goals go_ret
  all_goals exact ⟨rfl, HB5.out⟩
end Go.Proofs.Ytaejnhgnacgheaa
