/- types: the law's sanity answers true. -/
import Derived.Test.YtaejnhgnacgheaaT14
namespace Go.Proofs.Ytaejnhgnacgheaa
set_option linter.unusedVariables false
set_option linter.unusedSimpArgs false
open Go.RowKit

theorem sl_lot {w : World} {g : Nat} (h : Row w g 63 lotT) : Sl w (.slice (some ⟨g, 0, none⟩) 2 2) 63 2 2 lotT :=
  ⟨rfl, .inr ⟨g, 0, 2, lotT, rfl, h, Nat.le_refl _, by decide, by decide, rfl⟩⟩
/-- behind a's append -/
theorem mid_A {w w1 w0 w2 : World} {g A : Nat} {v : Value} (h1 : Kp w w1) (hg : w.heap.size ≤ g) (hA : Row w1 A 30 (dcells lotL (.slice (some ⟨g, 0, none⟩) 2 2) (.slice none 0 0) (.slice none 0 0) (.slice none 0 0))) (hgA : g ≠ A) (hAw : w.heap.size ≤ A) (h0 : Kp w1 w0)
    (hap : Appended w0 (.slice (some ⟨g, 0, none⟩) 2 2) 63 2 3 (lotT ++ [.int .i64 4, .int .i64 30]) v w2) :
    Row w2 A 30 (dcells lotL (.slice (some ⟨g, 0, none⟩) 2 2) (.slice none 0 0) (.slice none 0 0) (.slice none 0 0)) ∧ Kp w (w2.setCell ⟨A, 6, none⟩ v) ∧ Row (w2.setCell ⟨A, 6, none⟩ v) A 30 (dcells badA v (.slice none 0 0) (.slice none 0 0) (.slice none 0 0)) ∧ Tiers (w2.setCell ⟨A, 6, none⟩ v) v [(6, 50), (5, 30), (4, 30)] := by
  have hr2 : Row w2 A 30 (dcells lotL (.slice (some ⟨g, 0, none⟩) 2 2) (.slice none 0 0) (.slice none 0 0) (.slice none 0 0)) := (hA.upd h0 id).upd hap.upd (by simp [Value.ownBlock, hgA])
  have hne : v.ownBlock ≠ some A := fun e => by
    obtain ⟨cs, hr⟩ := hap.sl.row e
    exact hr.ne_ hr2 (by decide) rfl
  have hk2 : Kp w w2 := Upd.trans (h1.trans h0) hap.upd (fun k hk e => by simp [Value.ownBlock] at e; omega)
  have hs := (Upd.refl (· = A) w2).setCell (p := ⟨A, 6, none⟩) (fun _ => rfl) v
  refine ⟨hr2, Upd.trans hk2 hs (fun k hk e => by omega), hr2.set 6 v, ?_⟩
  exact Sl.lst (k := 2) (enc := tierE) (fun _ => rfl) (hap.sl.upd hs (fun k hk e => hne (by rw [hk, e])))

set_option maxHeartbeats 8000000 in
set_option maxRecDepth 20000 in
theorem sanity_any (w : World) : Calls Try.prog 10 #[] w (SaneP w) := by
  go_enter Try.func10, Try.ntmps10
  go_upto_region 2 with (go_at_call 25; refine (lottery_any _).mono ?_; rintro en w1 ⟨g1, rfl, hgl, hrow, hb⟩; have HB1 := Lib.hid hb; have HG1 := Lib.hid hgl; have LT1 := Lib.hid hrow; clear hgl hrow hb)
  obtain ⟨A, hA⟩ : ∃ A, A = w1.heap.size := ⟨_, rfl⟩
  obtain ⟨W1, hW1⟩ : ∃ W, W = w1.alloc (.cells (dcells lotL (.slice (some ⟨g1, 0, none⟩) 2 2) (.slice none 0 0) (.slice none 0 0) (.slice none 0 0)).toArray 30) := ⟨_, rfl⟩
  change Code.wp _ _ _ _ (w1.alloc (.cells (dcells lotL (.slice (some ⟨g1, 0, none⟩) 2 2) (.slice none 0 0) (.slice none 0 0) (.slice none 0 0)).toArray 30))
  rw [← hW1, ← hA]
  have RA1 : Hid (Row W1 A 30 (dcells lotL (.slice (some ⟨g1, 0, none⟩) 2 2) (.slice none 0 0) (.slice none 0 0) (.slice none 0 0))) := Lib.hid (by rw [hW1]; exact Row.new_at _ _ _ _ hA)
  have SL1 : Hid (Sl W1 (.slice (some ⟨g1, 0, none⟩) 2 2) 63 2 2 lotT) := Lib.hid (by rw [hW1]; exact sl_lot (LT1.out.upd ((Upd.refl (fun _ => False) _).alloc _) id))
  have KW1 : Hid (Kp w W1) := Lib.hid (by rw [hW1]; exact HB1.out.trans ((Upd.refl _ _).alloc _))
  have HGA : Hid (g1 ≠ A ∧ w.heap.size ≤ A) := Lib.hid (by have := LT1.out.lt; have := HB1.out.size; omega)
  clear hA hW1 HB1 LT1
  have c6 : W1.cell? ⟨A, 6, none⟩ = some (.slice (some ⟨g1, 0, none⟩) 2 2) := RA1.out.cell 6
  go_upto_region 3 with (show wpList _ _ _ (⟨some 13, _, _, _, _, _⟩ :: _) _ _; go_must (refine wpList_append_sl rfl (.tmp 10) (.tmp 12) _ rfl T_tiers rfl (SL1.out.far ((Upd.refl _ _).alloc _)) (m := 1) (news := [.int .i64 4, .int .i64 30]) rfl (Rd.of_new (cs := #[.int .i64 4, .int .i64 30]) (Row.new_at _ _ _ _ rfl) rfl) (by intro u hu; simp at hu; rcases hu with rfl | rfl <;> rfl) (by decide) (by decide) ?_); intro v2 w2 hap; have hm := mid_A KW1.out HG1.out RA1.out HGA.out.1 HGA.out.2 ((Upd.refl _ _).alloc _) hap; have MA := Lib.hid hm; have e6 : w2.cell? ⟨A, 6, none⟩ = some (.slice (some ⟨g1, 0, none⟩) 2 2) := hm.1.cell 6; have f6 : w2.frozen? ⟨A, 6, none⟩ = false := hm.1.frozen (j := 6) (by simp); obtain ⟨A2, c2, rfl, _⟩ := hap.sl.form; clear hm hap)
  obtain ⟨W2, hW2⟩ : ∃ W, W = w2.setCell ⟨A, 6, none⟩ (.slice A2 3 c2) := ⟨_, rfl⟩
  have MA2 := MA.out.2
  rw [← hW2] at MA2 ⊢
  have MB := Lib.hid MA2
  clear hW2 MA2 MA e6 f6 c6 SL1 RA1 KW1 HGA HG1
  go_upto_region 8 with (go_at_call 25; refine (lottery_any _).mono ?_; rintro en w3 ⟨g2, rfl, hgl, hrow, hb⟩; have HB3 := Lib.hid hb; have HG3 := Lib.hid hgl; have LT3 := Lib.hid hrow; clear hgl hrow hb)
  obtain ⟨B, hB⟩ : ∃ B, B = w3.heap.size := ⟨_, rfl⟩
  obtain ⟨w4, hw4⟩ : ∃ W, W = ((((((w3.alloc (.cells (dcells badB (.slice (some ⟨g2, 0, none⟩) 2 2) (.slice (some ⟨w3.heap.size + 1, 0, none⟩) 1 1) (.slice none 0 0) (.slice none 0 0)).toArray 30)).alloc (.cells #[.string ⟨#[97]⟩, .int .i64 1] 65)).alloc (.cells #[.string ⟨#[119, 111, 109, 101, 110]⟩, .int .i64 2, .int .i64 3] 67)).alloc (.cells (dcells panC (.slice none 0 0) (.slice none 0 0) (.slice (some ⟨w3.heap.size + 1 + 1, 0, none⟩) 1 1) (.slice none 0 0)).toArray 30)).alloc (.cells (dcells badD (.slice none 0 0) (.slice none 0 0) (.slice (some ⟨w3.heap.size + 1 + 1 + 1 + 1 + 1, 0, none⟩) 1 1) (.slice none 0 0)).toArray 30)).alloc (.cells #[.string ⟨#[119, 111, 109, 101, 110]⟩, .int .i64 3, .int .i64 2] 67)) := ⟨_, rfl⟩
  change Code.wp _ _ _ _ ((((((w3.alloc (.cells (dcells badB (.slice (some ⟨g2, 0, none⟩) 2 2) (.slice (some ⟨w3.heap.size + 1, 0, none⟩) 1 1) (.slice none 0 0) (.slice none 0 0)).toArray 30)).alloc (.cells #[.string ⟨#[97]⟩, .int .i64 1] 65)).alloc (.cells #[.string ⟨#[119, 111, 109, 101, 110]⟩, .int .i64 2, .int .i64 3] 67)).alloc (.cells (dcells panC (.slice none 0 0) (.slice none 0 0) (.slice (some ⟨w3.heap.size + 1 + 1, 0, none⟩) 1 1) (.slice none 0 0)).toArray 30)).alloc (.cells (dcells badD (.slice none 0 0) (.slice none 0 0) (.slice (some ⟨w3.heap.size + 1 + 1 + 1 + 1 + 1, 0, none⟩) 1 1) (.slice none 0 0)).toArray 30)).alloc (.cells #[.string ⟨#[119, 111, 109, 101, 110]⟩, .int .i64 3, .int .i64 2] 67))
  rw [← hw4, ← hB]
  have K34 : Kp w3 w4 := by rw [hw4]; exact ((((((((((((Upd.refl (fun _ => False) _).alloc _)).alloc _)).alloc _)).alloc _)).alloc _)).alloc _)
  have RA : Hid (Row w4 A 30 (dcells badA (.slice A2 3 c2) (.slice none 0 0) (.slice none 0 0) (.slice none 0 0))) := Lib.hid ((MB.out.2.1.upd HB3.out id).upd K34 id)
  have RB : Hid (Row w4 B 30 (dcells badB (.slice (some ⟨g2, 0, none⟩) 2 2) (.slice (some ⟨B + 1, 0, none⟩) 1 1) (.slice none 0 0) (.slice none 0 0))) := Lib.hid (by rw [hw4, hB]; exact Row.upd (Row.new_at _ _ _ _ rfl) (((((((((((Upd.refl (fun _ => False) _).alloc _)).alloc _)).alloc _)).alloc _)).alloc _)) id)
  have RC : Hid (Row w4 (B + 1 + 1 + 1) 30 (dcells panC (.slice none 0 0) (.slice none 0 0) (.slice (some ⟨B + 1 + 1, 0, none⟩) 1 1) (.slice none 0 0))) := Lib.hid (by rw [hw4, hB]; exact Row.upd (Row.new_at _ _ _ _ (by simp)) (((((Upd.refl (fun _ => False) _).alloc _)).alloc _)) id)
  have RD : Hid (Row w4 (B + 1 + 1 + 1 + 1) 30 (dcells badD (.slice none 0 0) (.slice none 0 0) (.slice (some ⟨B + 1 + 1 + 1 + 1 + 1, 0, none⟩) 1 1) (.slice none 0 0))) := Lib.hid (by rw [hw4, hB]; exact Row.upd (Row.new_at _ _ _ _ (by simp)) (((Upd.refl (fun _ => False) _).alloc _)) id)
  have IA : Hid (DrawIn w4 badA (.slice A2 3 c2) (.slice none 0 0) (.slice none 0 0) (.slice none 0 0)) := Lib.hid ⟨(MB.out.2.2.upd HB3.out).upd K34, Lst.nil_ _ _ _, Lst.nil_ _ _ _, Lst.nil_ _ _ _, ok_A⟩
  have IB : Hid (DrawIn w4 badB (.slice (some ⟨g2, 0, none⟩) 2 2) (.slice (some ⟨B + 1, 0, none⟩) 1 1) (.slice none 0 0) (.slice none 0 0)) := Lib.hid ⟨(tiers_row LT3.out).upd K34, by
    rw [hw4, hB]
    have h := lst_new (k := 2) (enc := placeE) (fun _ => rfl) (w3.alloc (.cells (dcells badB (.slice (some ⟨g2, 0, none⟩) 2 2) (.slice (some ⟨w3.heap.size + 1, 0, none⟩) 1 1) (.slice none 0 0) (.slice none 0 0)).toArray 30)) 65 #[.string ⟨#[97]⟩, .int .i64 1] [([97], 1)] rfl
    have e : ((w3.alloc (.cells (dcells badB (.slice (some ⟨g2, 0, none⟩) 2 2) (.slice (some ⟨w3.heap.size + 1, 0, none⟩) 1 1) (.slice none 0 0) (.slice none 0 0)).toArray 30))).heap.size = w3.heap.size + 1 := by simp
    rw [e] at h
    exact Lst.upd h (((((((((Upd.refl (fun _ => False) _).alloc _)).alloc _)).alloc _)).alloc _)), Lst.nil_ _ _ _, Lst.nil_ _ _ _, ok_B⟩
  have IC : Hid (DrawIn w4 panC (.slice none 0 0) (.slice none 0 0) (.slice (some ⟨B + 1 + 1, 0, none⟩) 1 1) (.slice none 0 0)) := Lib.hid ⟨Lst.nil_ _ _ _, Lst.nil_ _ _ _, by
    rw [hw4, hB]
    have h := lst_new (k := 3) (enc := quotaE) (fun _ => rfl) ((w3.alloc (.cells (dcells badB (.slice (some ⟨g2, 0, none⟩) 2 2) (.slice (some ⟨w3.heap.size + 1, 0, none⟩) 1 1) (.slice none 0 0) (.slice none 0 0)).toArray 30)).alloc (.cells #[.string ⟨#[97]⟩, .int .i64 1] 65)) 67 #[.string ⟨#[119, 111, 109, 101, 110]⟩, .int .i64 2, .int .i64 3] [([119, 111, 109, 101, 110], 2, 3)] rfl
    have e : (((w3.alloc (.cells (dcells badB (.slice (some ⟨g2, 0, none⟩) 2 2) (.slice (some ⟨w3.heap.size + 1, 0, none⟩) 1 1) (.slice none 0 0) (.slice none 0 0)).toArray 30)).alloc (.cells #[.string ⟨#[97]⟩, .int .i64 1] 65))).heap.size = w3.heap.size + 1 + 1 := by simp
    rw [e] at h
    exact Lst.upd h (((((((Upd.refl (fun _ => False) _).alloc _)).alloc _)).alloc _)), Lst.nil_ _ _ _, ok_C⟩
  have ID : Hid (DrawIn w4 badD (.slice none 0 0) (.slice none 0 0) (.slice (some ⟨B + 1 + 1 + 1 + 1 + 1, 0, none⟩) 1 1) (.slice none 0 0)) := Lib.hid ⟨Lst.nil_ _ _ _, Lst.nil_ _ _ _, by
    rw [hw4, hB]
    have h := lst_new (k := 3) (enc := quotaE) (fun _ => rfl) (((((w3.alloc (.cells (dcells badB (.slice (some ⟨g2, 0, none⟩) 2 2) (.slice (some ⟨w3.heap.size + 1, 0, none⟩) 1 1) (.slice none 0 0) (.slice none 0 0)).toArray 30)).alloc (.cells #[.string ⟨#[97]⟩, .int .i64 1] 65)).alloc (.cells #[.string ⟨#[119, 111, 109, 101, 110]⟩, .int .i64 2, .int .i64 3] 67)).alloc (.cells (dcells panC (.slice none 0 0) (.slice none 0 0) (.slice (some ⟨w3.heap.size + 1 + 1, 0, none⟩) 1 1) (.slice none 0 0)).toArray 30)).alloc (.cells (dcells badD (.slice none 0 0) (.slice none 0 0) (.slice (some ⟨w3.heap.size + 1 + 1 + 1 + 1 + 1, 0, none⟩) 1 1) (.slice none 0 0)).toArray 30)) 67 #[.string ⟨#[119, 111, 109, 101, 110]⟩, .int .i64 3, .int .i64 2] [([119, 111, 109, 101, 110], 3, 2)] rfl
    have e : ((((((w3.alloc (.cells (dcells badB (.slice (some ⟨g2, 0, none⟩) 2 2) (.slice (some ⟨w3.heap.size + 1, 0, none⟩) 1 1) (.slice none 0 0) (.slice none 0 0)).toArray 30)).alloc (.cells #[.string ⟨#[97]⟩, .int .i64 1] 65)).alloc (.cells #[.string ⟨#[119, 111, 109, 101, 110]⟩, .int .i64 2, .int .i64 3] 67)).alloc (.cells (dcells panC (.slice none 0 0) (.slice none 0 0) (.slice (some ⟨w3.heap.size + 1 + 1, 0, none⟩) 1 1) (.slice none 0 0)).toArray 30)).alloc (.cells (dcells badD (.slice none 0 0) (.slice none 0 0) (.slice (some ⟨w3.heap.size + 1 + 1 + 1 + 1 + 1, 0, none⟩) 1 1) (.slice none 0 0)).toArray 30))).heap.size = w3.heap.size + 1 + 1 + 1 + 1 + 1 := by simp
    rw [e] at h
    exact h, Lst.nil_ _ _ _, ok_D⟩
  have HK : Hid (Kp w w4) := Lib.hid (MB.out.1.trans (HB3.out.trans K34))
  have HBw4 : Hid (Kp w4 w4) := Lib.hid (Upd.refl _ _)
  clear hw4 hB K34 MB HB3 HG3 LT3
  go_wp2_with (first
    | (go_at_call 25; show Calls _ _ _ w4 _; refine (lottery_any _).mono ?_; rintro en w5 ⟨g5, rfl, hgl, hrow, hb⟩; have HBw5 : Hid (Kp w4 w5) := Lib.hid (HBw4.out.trans hb); have LTw5 := Lib.hid (tiers_row hrow); clear hgl hrow hb)
    | (go_at_call 15; show Calls _ _ _ w5 _; have hc := is_any w5 lotL (.slice (some ⟨g5, 0, none⟩) 2 2) (.slice none 0 0) (.slice none 0 0) (.slice none 0 0) (lot_in LTw5.out) [] 0; rw [run_lot] at hc; refine hc.mono ?_; clear hc; rintro en w6 ⟨rfl, hb⟩; have HBw6 : Hid (Kp w4 w6) := Lib.hid (HBw5.out.trans hb); clear hb; rw [decide_eq_true (by rfl)]; obtain ⟨a0, a1, a2, a3, a4, a5, a6, a7, a8, a9, a10, a11, a12⟩ := cells13 (RA.out.upd HBw6.out id))
    | (go_at_call 15; show Calls _ _ _ w6 _; have hc := is_any w6 badA (.slice A2 3 c2) (.slice none 0 0) (.slice none 0 0) (.slice none 0 0) (IA.out.kp HBw6.out) [116, 105, 101, 114] 15; rw [run_A] at hc; refine hc.mono ?_; clear hc; rintro en w7 ⟨rfl, hb⟩; have HBw7 : Hid (Kp w4 w7) := Lib.hid (HBw6.out.trans hb); clear hb; rw [decide_eq_true (by rfl)]; obtain ⟨b0, b1, b2, b3, b4, b5, b6, b7, b8, b9, b10, b11, b12⟩ := cells13 (RB.out.upd HBw7.out id))
    | (go_at_call 15; show Calls _ _ _ w7 _; have hc := is_any w7 badB (.slice (some ⟨g2, 0, none⟩) 2 2) (.slice (some ⟨B + 1, 0, none⟩) 1 1) (.slice none 0 0) (.slice none 0 0) (IB.out.kp HBw7.out) [107, 105, 110, 100] 14; rw [run_B] at hc; refine hc.mono ?_; clear hc; rintro en w8 ⟨rfl, hb⟩; have HBw8 : Hid (Kp w4 w8) := Lib.hid (HBw7.out.trans hb); clear hb; rw [decide_eq_true (by rfl)]; obtain ⟨c0, c1, c2, c3, c4, c5, c6, c7, c8, c9, c10, c11, c12⟩ := cells13 (RC.out.upd HBw8.out id))
    | (go_at_call 15; show Calls _ _ _ w8 _; have hc := is_any w8 panC (.slice none 0 0) (.slice none 0 0) (.slice (some ⟨B + 1 + 1, 0, none⟩) 1 1) (.slice none 0 0) (IC.out.kp HBw8.out) [] 0; rw [run_C] at hc; refine hc.mono ?_; clear hc; rintro en w9 ⟨rfl, hb⟩; have HBw9 : Hid (Kp w4 w9) := Lib.hid (HBw8.out.trans hb); clear hb; rw [decide_eq_true (by rfl)]; obtain ⟨d0, d1, d2, d3, d4, d5, d6, d7, d8, d9, d10, d11, d12⟩ := cells13 (RD.out.upd HBw9.out id))
    | (go_at_call 15; show Calls _ _ _ w9 _; have hc := is_any w9 badD (.slice none 0 0) (.slice none 0 0) (.slice (some ⟨B + 1 + 1 + 1 + 1 + 1, 0, none⟩) 1 1) (.slice none 0 0) (ID.out.kp HBw9.out) [113, 117, 111, 116, 97] 15; rw [run_D] at hc; refine hc.mono ?_; clear hc; rintro en w10 ⟨rfl, hb⟩; have HBw10 : Hid (Kp w4 w10) := Lib.hid (HBw9.out.trans hb); clear hb; rw [decide_eq_true (by rfl)])
    | (go_at_call 25; show Calls _ _ _ w10 _; refine (lottery_any _).mono ?_; rintro en w11 ⟨g11, rfl, hgl, hrow, hb⟩; have HBw11 : Hid (Kp w4 w11) := Lib.hid (HBw10.out.trans hb); have LTw11 := Lib.hid (tiers_row hrow); clear hgl hrow hb)
    | (go_at_call 26; refine (worth_lot w11 _ LTw11.out).mono ?_; rintro en w12 ⟨rfl, hb⟩; have HBw12 : Hid (Kp w4 w12) := Lib.hid (HBw11.out.trans hb); clear hb)
    | (go_at_call 25; show Calls _ _ _ w12 _; refine (lottery_any _).mono ?_; rintro en w13 ⟨g13, rfl, hgl, hrow, hb⟩; have HBw13 : Hid (Kp w4 w13) := Lib.hid (HBw12.out.trans hb); have LTw13 := Lib.hid (tiers_row hrow); clear hgl hrow hb)
    | (go_at_call 18; show Calls _ _ _ (World.alloc w13 _) _; have hc := entrant_any (w13.alloc (.cells #[.int .i64 1, .int .i64 2, .int .i64 3, .int .i64 4, .int .i64 5, .int .i64 6] 3)) lotL (.slice (some ⟨g13, 0, none⟩) 2 2) (.slice none 0 0) (.slice none 0 0) (.slice none 0 0) (lot_in (LTw13.out.upd ((Upd.refl (fun _ => False) _).alloc _))) entA _ (.slice none 0 0) (.slice none 0 0) ⟨nums6 w13 _ 1 2 3 4 5 6, Lst.nil_ _ _ _, Lst.nil_ _ _ _, ok_eA⟩; rw [ent_A] at hc; refine hc.mono ?_; clear hc; rintro en w14 ⟨rfl, hb⟩; have HBw14 : Hid (Kp w4 w14) := Lib.hid (HBw13.out.trans (Kp.trans ((Upd.refl (fun _ => False) _).alloc _) hb)); clear hb)
    | (go_at_call 25; show Calls _ _ _ w14 _; refine (lottery_any _).mono ?_; rintro en w15 ⟨g15, rfl, hgl, hrow, hb⟩; have HBw15 : Hid (Kp w4 w15) := Lib.hid (HBw14.out.trans hb); have LTw15 := Lib.hid (tiers_row hrow); clear hgl hrow hb)
    | (go_at_call 18; show Calls _ _ _ (World.alloc w15 _) _; have hc := entrant_any (w15.alloc (.cells #[.int .i64 6, .int .i64 5, .int .i64 4, .int .i64 3, .int .i64 2, .int .i64 1] 3)) lotL (.slice (some ⟨g15, 0, none⟩) 2 2) (.slice none 0 0) (.slice none 0 0) (.slice none 0 0) (lot_in (LTw15.out.upd ((Upd.refl (fun _ => False) _).alloc _))) entB _ (.slice none 0 0) (.slice none 0 0) ⟨nums6 w15 _ 6 5 4 3 2 1, Lst.nil_ _ _ _, Lst.nil_ _ _ _, ok_eB⟩; rw [ent_B] at hc; refine hc.mono ?_; clear hc; rintro en w16 ⟨rfl, hb⟩; have HBw16 : Hid (Kp w4 w16) := Lib.hid (HBw15.out.trans (Kp.trans ((Upd.refl (fun _ => False) _).alloc _) hb)); clear hb))
  go_ret
  exact ⟨rfl, HK.out.trans HBw16.out⟩
end Go.Proofs.Ytaejnhgnacgheaa
