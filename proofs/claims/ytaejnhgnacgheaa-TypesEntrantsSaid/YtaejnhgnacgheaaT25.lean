/- TypesLess: the walk. -/
import Derived.Test.YtaejnhgnacgheaaT21
import Derived.Deep.MidRow
namespace Go.Proofs.Ytaejnhgnacgheaa
set_option linter.unusedVariables false
set_option linter.unusedSimpArgs false
open Go.RowKit

theorem tmod_small {q m : Int} (h0 : 0 ≤ q) (hm : 0 < m) : 0 ≤ q.tmod m ∧ q.tmod m < m := by
  rw [Int.tmod_eq_emod_of_nonneg h0]
  exact ⟨Int.emod_nonneg _ (by omega), Int.emod_lt_of_pos _ hm⟩
theorem LstA.cutTo {α : Type} {k : Nat} {enc : α → List Value} {w : World} {A : Option Addr} {c : Nat} {L : List α} (h : LstA k enc w A c L) {m : Nat} (hm : m ≤ L.length) : Lst k enc w (.slice A m c) (L.take m) :=
  ⟨A, c, by rw [List.length_take, Nat.min_eq_left hm], h.take m⟩
theorem wpList_load_gd {P : Program} {ops : Array Oper} {rest : List Oper} {op : Oper} {a : Act} {w : World} {Q : Exit → Act → World → Prop} (hw : Region.wanted op (yielded ops a.tmps) = true) (ty : TypeId) (x : Operand) (ho : op.op = .load ty x)
    (b o : Nat) (hx : a.eval x = .pointer (some ⟨b, o, none⟩)) (cs : List Value) (d : TypeDesc) (hc : w.rangeAt b o cs)
    (hu : P.underlying ty = some d) (hd : d.isRow = true) (hi : (P.info? ty).map (·.size) = some cs.length)
    (h : wpList P ops Q rest (a.put op.dst (.agg cs.toArray)) w) : wpList P ops Q (op :: rest) a w :=
  wpList_step fun _ hK => by
    rw [if_pos hw]
    exact wp_load_mid ty x ho b o hx cs d hc hu hd hi (hK _ _ h)
theorem DrawIn.forms {w : World} {d : DrawL} {vt vp vq vb : Value} (h : DrawIn w d vt vp vq vb) : ∃ A1 n1 c1 A2 n2 c2 A3 n3 c3 A4 n4 c4, vt = .slice A1 n1 c1 ∧ vp = .slice A2 n2 c2 ∧ vq = .slice A3 n3 c3 ∧ vb = .slice A4 n4 c4 ∧ n4 = d.barred.length ∧ n4 ≤ c4 ∧ LstA 1 numE w A4 c4 d.barred := by
  obtain ⟨A1, c1, e1, _⟩ := h.t
  obtain ⟨A2, c2, e2, _⟩ := h.p
  obtain ⟨A3, c3, e3, _⟩ := h.q
  obtain ⟨A4, c4, e4, h4⟩ := h.b
  exact ⟨_, _, _, _, _, _, _, _, _, _, _, _, e1, e2, e3, e4, rfl, h4.1, h4⟩
set_option maxHeartbeats 8000000 in
set_option maxRecDepth 20000 in
theorem less_true (w : World) (A : Option Addr) (nl c : Nat) (L : List Int) (hl : Nums w (.slice A nl c) L) (hL : L.length ≤ maxLen) (hok : ∀ x, x ∈ L → in64 x) (q0 q1 q2 : Int) (h0 : 0 ≤ q0 ∧ q0 < 256) (h1 : 0 ≤ q1 ∧ q1 < 256) (h2 : 0 ≤ q2 ∧ q2 < 256) :
    Calls Try.prog 6 #[.slice A nl c, .agg #[.int .u8 q0, .int .u8 q1, .int .u8 q2]] w (SaneP w) := by
  have HL := Lib.hid hl
  have HLL := Lib.hid hL
  have HOK := Lib.hid hok
  have H0 := Lib.hid h0
  have H1 := Lib.hid h1
  have H2 := Lib.hid h2
  clear hl hL hok h0 h1 h2
  go_enter Try.func6, Try.ntmps6
  go_upto_region 3 with (first
    | (go_at_call 10; refine (sanity_any _).mono ?_; rintro en w1 ⟨rfl, hb⟩; have U1 : Hid (Kp w w1) := Lib.hid (Kp.trans ((Upd.refl _ w).alloc _) hb); have R1 : Hid (Row w1 w.heap.size 50 [.int .u8 q0, .int .u8 q1, .int .u8 q2]) := Lib.hid ((Row.new w _ _).upd hb id); clear hb)
    | (go_at_call 11; refine (draw_any w1 A nl c L (HL.out.upd U1.out) HLL.out HOK.out).mono ?_; rintro en w2 ⟨d, vt, vp, vq, vb, rfl, hdi, hgd, hb⟩; obtain ⟨A1, n1, c1, A2, n2, c2, A3, n3, c3, A4, n4, c4, rfl, rfl, rfl, rfl, hn4, hc4, hl4⟩ := hdi.forms; have HB4 := Lib.hid (And.intro hn4 hl4); clear hn4 hl4; have U2 : Hid (Kp w w2) := Lib.hid (U1.out.trans hb); have R2 := Lib.hid (R1.out.upd hb id); have DI := Lib.hid hdi; have GD := Lib.hid hgd; clear hb hdi hgd))
  obtain ⟨D, hD⟩ : ∃ D, D = w2.heap.size := ⟨_, rfl⟩
  obtain ⟨w3, hw3⟩ : ∃ W, W = w2.alloc (.cells (dcells d (.slice A1 n1 c1) (.slice A2 n2 c2) (.slice A3 n3 c3) (.slice A4 n4 c4)).toArray 30) := ⟨_, rfl⟩
  change Code.wp _ _ _ _ (w2.alloc (.cells (dcells d (.slice A1 n1 c1) (.slice A2 n2 c2) (.slice A3 n3 c3) (.slice A4 n4 c4)).toArray 30))
  have U3 : Hid (Kp w2 w3 ∧ Kp w w3) := Lib.hid (by rw [hw3]; exact ⟨(Upd.refl _ w2).alloc _, U2.out.trans ((Upd.refl _ w2).alloc _)⟩)
  have R3 := Lib.hid (R2.out.upd U3.out.1 id)
  have D3 : Hid (Row w3 D 30 (dcells d (.slice A1 n1 c1) (.slice A2 n2 c2) (.slice A3 n3 c3) (.slice A4 n4 c4))) := Lib.hid (by rw [hw3, hD]; exact Row.new _ _ _)
  have DI3 := Lib.hid (DI.out.kp U3.out.1)
  rw [← hw3, ← hD]
  clear hw3 hD
  have hagg := Try.underlying30
  go_upto_region 4 with (show wpList _ _ _ (⟨some 13, _, _, _, _, _⟩ :: _) _ _; refine wpList_load_mid rfl 30 (.tmp 6) rfl D 0 rfl _ _ D3.out.rangeAt hagg rfl (by kernel_rfl) ?_)
  obtain ⟨E, hE⟩ : ∃ E, E = w3.heap.size := ⟨_, rfl⟩
  obtain ⟨w4, hw4⟩ : ∃ W, W = w3.alloc (.cells (dcells d (.slice A1 n1 c1) (.slice A2 n2 c2) (.slice A3 n3 c3) (.slice A4 n4 c4)).toArray 30) := ⟨_, rfl⟩
  change Code.wp _ _ _ _ (w3.alloc (.cells (dcells d (.slice A1 n1 c1) (.slice A2 n2 c2) (.slice A3 n3 c3) (.slice A4 n4 c4)).toArray 30))
  have U4 : Hid (Kp w3 w4 ∧ Kp w w4) := Lib.hid (by rw [hw4]; exact ⟨(Upd.refl _ w3).alloc _, U3.out.2.trans ((Upd.refl _ w3).alloc _)⟩)
  have R4 := Lib.hid (R3.out.upd U4.out.1 id)
  have D4 := Lib.hid (D3.out.upd U4.out.1 id)
  have DI4 := Lib.hid (DI3.out.kp U4.out.1)
  have E4 : Hid (Row w4 E 30 (dcells d (.slice A1 n1 c1) (.slice A2 n2 c2) (.slice A3 n3 c3) (.slice A4 n4 c4))) := Lib.hid (by rw [hw4, hE]; exact Row.new _ _ _)
  have HE : Hid (w3.heap.size ≤ E ∧ D < E ∧ w.heap.size < E ∧ w.heap.size ≠ E) := Lib.hid (by have := D3.out.lt; have := R3.out.lt; omega)
  rw [← hw4, ← hE]
  clear hw4 hE
  obtain ⟨rd, hrd⟩ : ∃ x, x = d.round := ⟨_, rfl⟩
  obtain ⟨pr, hpr⟩ : ∃ x, x = d.price := ⟨_, rfl⟩
  have hR : 1 ≤ rd ∧ rd ≤ 9 := by rw [hrd]; exact GD.out.round
  have hP : 0 ≤ pr ∧ pr ≤ 8 := by rw [hpr]; exact GD.out.price
  have HR := Lib.hid hR
  have HP := Lib.hid hP
  have e0 : w4.cell? ⟨w.heap.size, 0, none⟩ = some (.int .u8 q0) := R4.out.cell 0
  have e2 : w4.cell? ⟨D, 2, none⟩ = some (.int .i64 rd) := by rw [hrd]; exact D4.out.cell 2
  have g2 : w4.cell? ⟨E, 2, none⟩ = some (.int .i64 d.round) := E4.out.cell 2
  have f2 := E4.out.frozen (j := 2) (by simp)
  have HRD := Lib.hid hrd
  have HPR := Lib.hid hpr
  clear hrd hpr
  obtain ⟨t0, ht0⟩ : ∃ t, q0.tmod rd = t := ⟨_, rfl⟩
  have T0 : Hid (0 ≤ t0 ∧ t0 < rd) := Lib.hid (by rw [← ht0]; exact tmod_small H0.out.1 (by have := HR.out; omega))
  have hz : (rd == 0) = false := by simp; omega
  have k0 : IntKind.i64.wrap q0 = q0 := IntWalk.i64_in _ (by have := H0.out; omega)
  have k1 : IntKind.i64.wrap t0 = t0 := IntWalk.i64_in _ (by have := T0.out; omega)
  have k2 : IntKind.i64.wrap (1 + t0) = 1 + t0 := IntWalk.i64_in _ (by have := T0.out; omega)
  have k0' : wrap64 q0 = q0 := by unfold wrap64; have := H0.out; omega
  have k1' : wrap64 t0 = t0 := by unfold wrap64; have := T0.out; omega
  have k2' : wrap64 (1 + t0) = 1 + t0 := by unfold wrap64; have := T0.out; omega
  have hR1 := hR.1
  have hR2 := hR.2
  clear hR hP
  go_upto_region 5 with fail
  clear e0 e2 g2 f2 hz k0 k1 k2 k0' k1' k2'
  obtain ⟨w5, hw5⟩ : ∃ W, W = w4.setCell ⟨E, 2, none⟩ (.int .i64 (1 + t0)) := ⟨_, rfl⟩
  have HS5 : Hid (Upd (· = E) w4 w5) := Lib.hid (by rw [hw5]; exact (Upd.refl (· = E) w4).setCell (fun _ => rfl) _)
  have U5 : Hid (Kp w w5) := Lib.hid (Upd.trans U4.out.2 HS5.out (fun k hk e => by have := HE.out; have := U3.out.2.size; omega))
  have R5 := Lib.hid (R4.out.upd HS5.out HE.out.2.2.2)
  have D5 := Lib.hid (D4.out.upd HS5.out (by have := HE.out; omega))
  have E5 : Hid (Row w5 E 30 (dcells { d with round := 1 + t0 } (.slice A1 n1 c1) (.slice A2 n2 c2) (.slice A3 n3 c3) (.slice A4 n4 c4))) := Lib.hid (by rw [hw5]; exact E4.out.set 2 _)
  have V5 : Hid (Upd (· = E) w3 w5) := Lib.hid (Upd.trans (U4.out.1.mono (fun _ _ h => h.elim)) HS5.out (fun _ _ h => h))
  rw [← hw5]
  clear hw5
  have e1 : w5.cell? ⟨w.heap.size, 1, none⟩ = some (.int .u8 q1) := R5.out.cell 1
  have e3 : w5.cell? ⟨D, 3, none⟩ = some (.int .i64 pr) := by rw [HPR.out]; exact D5.out.cell 3
  have g3 : w5.cell? ⟨E, 3, none⟩ = some (.int .i64 d.price) := E5.out.cell 3
  have f3 := E5.out.frozen (j := 3) (by simp)
  have hP1 := HP.out.1
  have hP2 := HP.out.2
  obtain ⟨t1, ht1⟩ : ∃ t, q1.tmod (pr + 1) = t := ⟨_, rfl⟩
  have T1 : Hid (0 ≤ t1 ∧ t1 < pr + 1) := Lib.hid (by rw [← ht1]; exact tmod_small H1.out.1 (by have := HP.out; omega))
  have hz : (pr + 1 == 0) = false := by simp; omega
  have k0 : IntKind.i64.wrap q1 = q1 := IntWalk.i64_in _ (by have := H1.out; omega)
  have k1 : IntKind.i64.wrap t1 = t1 := IntWalk.i64_in _ (by have := T1.out; omega)
  have k2 : IntKind.i64.wrap (pr + 1) = pr + 1 := IntWalk.i64_in _ (by omega)
  have k0' : wrap64 q1 = q1 := by unfold wrap64; have := H1.out; omega
  have k1' : wrap64 t1 = t1 := by unfold wrap64; have := T1.out; omega
  have k2' : wrap64 (pr + 1) = pr + 1 := by unfold wrap64; omega
  go_upto_region 6 with fail
  clear e1 e3 g3 f3 hz k0 k1 k2 k0' k1' k2'
  obtain ⟨w6, hw6⟩ : ∃ W, W = w5.setCell ⟨E, 3, none⟩ (.int .i64 t1) := ⟨_, rfl⟩
  have HS6 : Hid (Upd (· = E) w5 w6) := Lib.hid (by rw [hw6]; exact (Upd.refl (· = E) w5).setCell (fun _ => rfl) _)
  have U6 : Hid (Kp w w6) := Lib.hid (Upd.trans U5.out HS6.out (fun k hk e => by have := HE.out; have := U3.out.2.size; omega))
  have R6 := Lib.hid (R5.out.upd HS6.out HE.out.2.2.2)
  have D6 := Lib.hid (D5.out.upd HS6.out (by have := HE.out; omega))
  have E6 : Hid (Row w6 E 30 (dcells { d with round := 1 + t0, price := t1 } (.slice A1 n1 c1) (.slice A2 n2 c2) (.slice A3 n3 c3) (.slice A4 n4 c4))) := Lib.hid (by rw [hw6]; exact E5.out.set 3 _)
  have V6 : Hid (Upd (· = E) w3 w6) := Lib.hid (Upd.trans V5.out HS6.out (fun _ _ h => h))
  rw [← hw6]
  clear hw6
  have hn2 : n4 ≤ 2 := by have := HB4.out.1; have := GD.out.bar.1; omega
  have e2 : w6.cell? ⟨w.heap.size, 2, none⟩ = some (.int .u8 q2) := R6.out.cell 2
  have e12 : w6.cell? ⟨D, 12, none⟩ = some (.slice A4 n4 c4) := D6.out.cell 12
  have g12 : w6.cell? ⟨E, 12, none⟩ = some (.slice A4 n4 c4) := E6.out.cell 12
  have f12 := E6.out.frozen (j := 12) (by simp)
  obtain ⟨t2, ht2⟩ : ∃ t : Nat, q2.tmod ((n4 : Int) + 1) = t := ⟨(q2.tmod ((n4 : Int) + 1)).toNat, by have := tmod_small (q := q2) (m := (n4 : Int) + 1) H2.out.1 (by omega); omega⟩
  have T2 : Hid (t2 ≤ n4) := Lib.hid (by have := tmod_small (q := q2) (m := (n4 : Int) + 1) H2.out.1 (by omega); omega)
  have ht2n : t2 ≤ n4 := T2.out
  have ht2c : t2 ≤ c4 := by omega
  have hz : ((n4 : Int) + 1 == 0) = false := by simp; omega
  have k0 : IntKind.i64.wrap q2 = q2 := IntWalk.i64_in _ (by have := H2.out; omega)
  have k1 : IntKind.i64.wrap (t2 : Int) = t2 := IntWalk.i64_in _ (by omega)
  have k2 : IntKind.i64.wrap ((n4 : Int) + 1) = (n4 : Int) + 1 := IntWalk.i64_in _ (by omega)
  go_wp2_with fail
  go_region
  clear e2 e12 g12 f12 hz k0 k1 k2
  obtain ⟨w7, hw7⟩ : ∃ W, W = (w6.setCell ⟨E, 12, none⟩ (.slice A4 t2 c4)).drew := ⟨_, rfl⟩
  have HS7 : Hid (Upd (· = E) w6 w7) := Lib.hid (by rw [hw7]; exact ((Upd.refl (· = E) w6).setCell (fun _ => rfl) _).drew)
  have U7 : Hid (Kp w w7) := Lib.hid (Upd.trans U6.out HS7.out (fun k hk e => by have := HE.out; have := U3.out.2.size; omega))
  have D7 := Lib.hid (D6.out.upd HS7.out (by have := HE.out; omega))
  obtain ⟨dE, hdE⟩ : ∃ d' : DrawL, d' = { d with round := 1 + t0, price := t1, barred := d.barred.take t2 } := ⟨_, rfl⟩
  have E7 : Hid (Row w7 E 30 (dcells dE (.slice A1 n1 c1) (.slice A2 n2 c2) (.slice A3 n3 c3) (.slice A4 t2 c4))) := Lib.hid (by rw [hw7, hdE]; exact (E6.out.set 12 _).drew)
  have V7 : Hid (Upd (· = E) w3 w7) := Lib.hid (Upd.trans V6.out HS7.out (fun _ _ h => h))
  have W7 : Hid (Kp w3 w7) := Lib.hid (V7.out.mono (fun k hk e => by have := HE.out; omega))
  have GE : Hid (runC dE clausesL = ([], 0)) := Lib.hid (by
    rw [hdE]
    refine (GD.out.less (r := 1 + t0) (p := t1) (B := d.barred.take t2) (by have := T0.out; have := HR.out; omega) (by have := T1.out; have := HP.out; omega) ⟨?_, ?_⟩ (fun b hb => GD.out.low b (List.mem_of_mem_take hb))).run
    · rw [List.length_take]; have := GD.out.bar.1; omega
    · exact GD.out.bar.2.sublist (List.take_sublist _ _))
  have IE : Hid (∀ W, Kp w3 W → DrawIn W dE (.slice A1 n1 c1) (.slice A2 n2 c2) (.slice A3 n3 c3) (.slice A4 t2 c4)) := Lib.hid (fun W hW => by
    have hd := DI3.out.kp hW
    have hb : Nums W (.slice A4 t2 c4) (d.barred.take t2) := by
      have hla : LstA 1 numE W A4 c4 d.barred := (HB4.out.2.upd (U3.out.1.trans hW))
      exact hla.cutTo (by rw [← HB4.out.1]; exact T2.out)
    rw [hdE]
    refine ⟨hd.t, hd.p, hd.q, hb, ⟨hd.ok.name, hd.ok.tiers, hd.ok.places, hd.ok.quotas, ?_, hd.ok.tmatch, hd.ok.pname, hd.ok.qname, fun b hb => hd.ok.bar b (List.mem_of_mem_take hb)⟩⟩
    show (d.barred.take t2).length ≤ _
    rw [List.length_take]; have := GD.out.bar.1; omega)
  rw [← hw7]
  clear hw7 hdE ht0 ht1 ht2
  go_upto_region 11 with (first
    | (show wpList _ _ _ (⟨some 42, _, _, _, _, _⟩ :: _) _ _; refine wpList_load_mid rfl 30 (.tmp 6) rfl D 0 rfl (dcells d (.slice A1 n1 c1) (.slice A2 n2 c2) (.slice A3 n3 c3) (.slice A4 n4 c4)) _ D7.out.rangeAt hagg rfl (by kernel_rfl) ?_)
    | (show wpList _ _ _ (⟨some 44, _, _, _, _, _⟩ :: _) _ _; refine wpList_load_mid rfl 30 (.tmp 6) rfl D 0 rfl (dcells d (.slice A1 n1 c1) (.slice A2 n2 c2) (.slice A3 n3 c3) (.slice A4 n4 c4)) _ (D7.out.upd ((Upd.refl (fun _ => False) _).alloc _) id).rangeAt hagg rfl (by kernel_rfl) ?_))
  obtain ⟨w8, hw8⟩ : ∃ W, W = (w7.alloc (.cells (dcells { d with round := 0 } (.slice A1 n1 c1) (.slice A2 n2 c2) (.slice A3 n3 c3) (.slice A4 n4 c4)).toArray 30)).alloc (.cells (dcells { d with price := -1 } (.slice A1 n1 c1) (.slice A2 n2 c2) (.slice A3 n3 c3) (.slice A4 n4 c4)).toArray 30) := ⟨_, rfl⟩
  change Code.wp _ _ _ _ ((w7.alloc (.cells (dcells { d with round := 0 } (.slice A1 n1 c1) (.slice A2 n2 c2) (.slice A3 n3 c3) (.slice A4 n4 c4)).toArray 30)).alloc (.cells (dcells { d with price := -1 } (.slice A1 n1 c1) (.slice A2 n2 c2) (.slice A3 n3 c3) (.slice A4 n4 c4)).toArray 30))
  have K78 : Kp w7 w8 := by rw [hw8]; exact ((Upd.refl _ w7).alloc _).alloc _
  have U8 : Hid (Kp w3 w8 ∧ Kp w w8) := Lib.hid ⟨W7.out.trans K78, U7.out.trans K78⟩
  have D8 := Lib.hid (D7.out.upd K78 id)
  have E8 := Lib.hid (E7.out.upd K78 id)
  obtain ⟨F, hF⟩ : ∃ F, F = w7.heap.size := ⟨_, rfl⟩
  have F8 : Hid (Row w8 F 30 (dcells { d with round := 0 } (.slice A1 n1 c1) (.slice A2 n2 c2) (.slice A3 n3 c3) (.slice A4 n4 c4))) := Lib.hid (by rw [hw8, hF]; exact (Row.new w7 _ _).upd ((Upd.refl (fun _ => False) _).alloc _) id)
  have G8 : Hid (Row w8 (F + 1) 30 (dcells { d with price := -1 } (.slice A1 n1 c1) (.slice A2 n2 c2) (.slice A3 n3 c3) (.slice A4 n4 c4))) := Lib.hid (by rw [hw8, hF]; exact Row.new_at _ _ _ _ (by simp))
  have IF : Hid (∀ W, Kp w3 W → DrawIn W { d with round := 0 } (.slice A1 n1 c1) (.slice A2 n2 c2) (.slice A3 n3 c3) (.slice A4 n4 c4)) := Lib.hid (fun W hW => by
    have hd := DI3.out.kp hW
    exact ⟨hd.t, hd.p, hd.q, hd.b, ⟨hd.ok.name, hd.ok.tiers, hd.ok.places, hd.ok.quotas, hd.ok.barred, hd.ok.tmatch, hd.ok.pname, hd.ok.qname, hd.ok.bar⟩⟩)
  have IG : Hid (∀ W, Kp w3 W → DrawIn W { d with price := -1 } (.slice A1 n1 c1) (.slice A2 n2 c2) (.slice A3 n3 c3) (.slice A4 n4 c4)) := Lib.hid (fun W hW => by
    have hd := DI3.out.kp hW
    exact ⟨hd.t, hd.p, hd.q, hd.b, ⟨hd.ok.name, hd.ok.tiers, hd.ok.places, hd.ok.quotas, hd.ok.barred, hd.ok.tmatch, hd.ok.pname, hd.ok.qname, hd.ok.bar⟩⟩)
  rw [← hw8, ← hF]
  clear hw8 K78 hF
  have hC1 : Hid (∀ W, Kp w3 W → Calls Try.prog 15 #[dval d (.slice A1 n1 c1) (.slice A2 n2 c2) (.slice A3 n3 c3) (.slice A4 n4 c4), .string ⟨#[]⟩, .int .i64 0] W (Gives W (.bool true))) := Lib.hid (fun W hW => by
    have h := is_any W d _ _ _ _ (DI3.out.kp hW) [] 0
    rw [GD.out.run] at h
    simpa using h)
  have hC2 : Hid (∀ W, Kp w3 W → Calls Try.prog 15 #[dval dE (.slice A1 n1 c1) (.slice A2 n2 c2) (.slice A3 n3 c3) (.slice A4 t2 c4), .string ⟨#[]⟩, .int .i64 0] W (Gives W (.bool true))) := Lib.hid (fun W hW => by
    have h := is_any W dE _ _ _ _ (IE.out W hW) [] 0
    rw [GE.out] at h
    simpa using h)
  have hC3 : Hid (∀ W, Kp w3 W → Calls Try.prog 15 #[dval { d with round := 0 } (.slice A1 n1 c1) (.slice A2 n2 c2) (.slice A3 n3 c3) (.slice A4 n4 c4), .string ⟨#[114, 111, 117, 110, 100]⟩, .int .i64 15] W (Gives W (.bool true))) := Lib.hid (fun W hW => by
    have h := is_any W _ _ _ _ _ (IF.out W hW) [114, 111, 117, 110, 100] 15
    rw [GD.out.round0] at h
    simpa using h)
  have hC4 : Hid (∀ W, Kp w3 W → Calls Try.prog 15 #[dval { d with price := -1 } (.slice A1 n1 c1) (.slice A2 n2 c2) (.slice A3 n3 c3) (.slice A4 n4 c4), .string ⟨#[112, 114, 105, 99, 101]⟩, .int .i64 15] W (Gives W (.bool true))) := Lib.hid (fun W hW => by
    have h := is_any W _ _ _ _ _ (IG.out W hW) [112, 114, 105, 99, 101] 15
    rw [GD.out.price1] at h
    simpa using h)
  go_wp2_with (first
    | (show wpList _ _ _ (⟨some 48, _, _, _, _, _⟩ :: _) _ _; refine wpList_load_gd rfl 30 (.tmp 6) rfl D 0 rfl (dcells d (.slice A1 n1 c1) (.slice A2 n2 c2) (.slice A3 n3 c3) (.slice A4 n4 c4)) _ D8.out.rangeAt hagg rfl (by kernel_rfl) ?_)
    | (show wpList _ _ _ (⟨some 52, _, _, _, _, _⟩ :: _) _ _; refine wpList_load_gd rfl 30 (.tmp 7) rfl E 0 rfl (dcells dE (.slice A1 n1 c1) (.slice A2 n2 c2) (.slice A3 n3 c3) (.slice A4 t2 c4)) _ (E8.out.upd V9.out id).rangeAt hagg rfl (by kernel_rfl) ?_)
    | (show wpList _ _ _ (⟨some 56, _, _, _, _, _⟩ :: _) _ _; refine wpList_load_gd rfl 30 (.tmp 8) rfl F 0 rfl (dcells { d with round := 0 } (.slice A1 n1 c1) (.slice A2 n2 c2) (.slice A3 n3 c3) (.slice A4 n4 c4)) _ (F8.out.upd V10.out id).rangeAt hagg rfl (by kernel_rfl) ?_)
    | (show wpList _ _ _ (⟨some 60, _, _, _, _, _⟩ :: _) _ _; refine wpList_load_gd rfl 30 (.tmp 9) rfl (F + 1) 0 rfl (dcells { d with price := -1 } (.slice A1 n1 c1) (.slice A2 n2 c2) (.slice A3 n3 c3) (.slice A4 n4 c4)) _ (G8.out.upd V11.out id).rangeAt hagg rfl (by kernel_rfl) ?_)
    | (go_at_call 15; show Calls _ _ _ w8 _; refine (hC1.out w8 U8.out.1).mono ?_; rintro en w9 ⟨rfl, hb⟩; have V9 : Hid (Kp w8 w9) := Lib.hid hb; clear hb)
    | (go_at_call 15; show Calls _ _ _ w9 _; refine (hC2.out w9 (U8.out.1.trans V9.out)).mono ?_; rintro en w10 ⟨rfl, hb⟩; have V10 : Hid (Kp w8 w10) := Lib.hid (V9.out.trans hb); clear hb)
    | (go_at_call 15; show Calls _ _ _ w10 _; refine (hC3.out w10 (U8.out.1.trans V10.out)).mono ?_; rintro en w11 ⟨rfl, hb⟩; have V11 : Hid (Kp w8 w11) := Lib.hid (V10.out.trans hb); clear hb)
    | (go_at_call 15; show Calls _ _ _ w11 _; refine (hC4.out w11 (U8.out.1.trans V11.out)).mono ?_; rintro en w12 ⟨rfl, hb⟩; have V12 : Hid (Kp w8 w12) := Lib.hid (V11.out.trans hb); clear hb))
  go_ret
  exact ⟨rfl, U8.out.2.trans V12.out⟩
end Go.Proofs.Ytaejnhgnacgheaa
