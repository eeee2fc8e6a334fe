/- TypesRaw: the walk (printed by gen-t16.py). -/
import Derived.Test.YtaejnhgnacgheaaT15
import Derived.Deep.MidRow
import Derived.Great.Walk
import Derived.Great.BuildSlice
namespace Go.Proofs.Ytaejnhgnacgheaa
set_option linter.unusedVariables false
set_option linter.unusedSimpArgs false
open Go.RowKit

theorem T_places : SlT Try.prog 27 65 2 24 (.agg #[.string ⟨#[]⟩, .int .i64 0]) := SlT.of Try.underlying27 (by kernel_rfl) rfl
theorem T_quotas : SlT Try.prog 28 67 3 32 (.agg #[.string ⟨#[]⟩, .int .i64 0, .int .i64 0]) := SlT.of Try.underlying28 (by kernel_rfl) rfl

theorem LstA.take {α : Type} {k : Nat} {enc : α → List Value} {w : World} {A : Option Addr} {c : Nat} {L : List α} (h : LstA k enc w A c L) (m : Nat) : LstA k enc w A c (L.take m) := by
  obtain ⟨h1, h2, h3⟩ := h
  refine ⟨by rw [List.length_take]; omega, fun hA => by rw [h2 hA]; simp, fun ad hA => ?_⟩
  obtain ⟨h4, h5, h6⟩ := h3 ad hA
  refine ⟨h4, h5, fun j x hj i u hi => ?_⟩
  rw [List.getElem?_take] at hj
  split at hj
  · exact h6 j x hj i u hi
  · cases hj
theorem runC_pair (d : DrawL) : ∀ (L : List ClauseL), (∀ c, c ∈ L → c.name ≠ []) → ((runC d L).1 = [] ↔ (runC d L).2 = 0)
  | [], _ => by simp [runC]
  | c :: L, h => by
    unfold runC
    by_cases hc : (c.kind = 0 ∨ c.kind = d.kind) ∧ c.err d ≠ 0
    · rw [if_pos hc]
      have h1 := h c List.mem_cons_self
      constructor
      · intro e; exact absurd e h1
      · intro e; exact absurd e hc.2
    · rw [if_neg hc]
      exact runC_pair d L (fun c' hc' => h c' (List.mem_cons_of_mem _ hc'))
theorem run_pair (d : DrawL) : (runC d clausesL).1 = [] ↔ (runC d clausesL).2 = 0 := runC_pair d clausesL (by
  intro c hc
  simp only [clausesL, List.mem_cons, List.not_mem_nil, or_false] at hc
  rcases hc with rfl | rfl | rfl | rfl | rfl | rfl | rfl | rfl | rfl | rfl | rfl | rfl <;> simp)

/-- rules that came in -/
structure RawIn (w : World) (d : DrawL) (A1 A2 A3 A4 : Option Addr) (n1 c1 n2 c2 n3 c3 n4 c4 : Nat) : Prop where
  t : LstA 2 tierE w A1 c1 d.tiers ∧ d.tiers.length = n1
  p : LstA 2 placeE w A2 c2 d.places ∧ d.places.length = n2
  q : LstA 3 quotaE w A3 c3 d.quotas ∧ d.quotas.length = n3
  b : LstA 1 numE w A4 c4 d.barred ∧ d.barred.length = n4
  name : d.name.length ≤ maxLen
  lens : n1 ≤ maxLen ∧ n2 ≤ maxLen ∧ n3 ≤ maxLen ∧ n4 ≤ maxLen
  tmatch : ∀ t, t ∈ d.tiers → in64 t.1
  pname : ∀ p, p ∈ d.places → okS p.1
  qname : ∀ q, q ∈ d.quotas → okS q.1
  bar : ∀ b, b ∈ d.barred → in64 b
def cut15 (d : DrawL) : DrawL := { d with tiers := d.tiers.take 15, places := d.places.take 15, quotas := d.quotas.take 15, barred := d.barred.take 15 }
theorem cutIn {w : World} {d : DrawL} {A1 A2 A3 A4 : Option Addr} {n1 c1 n2 c2 n3 c3 n4 c4 m1 m2 m3 m4 : Nat} (h : RawIn w d A1 A2 A3 A4 n1 c1 n2 c2 n3 c3 n4 c4) (e1 : m1 = min n1 15) (e2 : m2 = min n2 15) (e3 : m3 = min n3 15) (e4 : m4 = min n4 15) : DrawIn w (cut15 d) (.slice A1 m1 c1) (.slice A2 m2 c2) (.slice A3 m3 c3) (.slice A4 m4 c4) := by
  have l1 : (d.tiers.take 15).length = m1 := by rw [List.length_take, h.t.2]; omega
  have l2 : (d.places.take 15).length = m2 := by rw [List.length_take, h.p.2]; omega
  have l3 : (d.quotas.take 15).length = m3 := by rw [List.length_take, h.q.2]; omega
  have l4 : (d.barred.take 15).length = m4 := by rw [List.length_take, h.b.2]; omega
  refine ⟨⟨A1, c1, ?_, h.t.1.take 15⟩, ⟨A2, c2, ?_, h.p.1.take 15⟩, ⟨A3, c3, ?_, h.q.1.take 15⟩, ⟨A4, c4, ?_, h.b.1.take 15⟩, ⟨h.name, ?_, ?_, ?_, ?_, ?_, ?_, ?_, ?_⟩⟩
  · show _ = Value.slice A1 (d.tiers.take 15).length c1; rw [l1]
  · show _ = Value.slice A2 (d.places.take 15).length c2; rw [l2]
  · show _ = Value.slice A3 (d.quotas.take 15).length c3; rw [l3]
  · show _ = Value.slice A4 (d.barred.take 15).length c4; rw [l4]
  · show (d.tiers.take 15).length ≤ _; omega
  · show (d.places.take 15).length ≤ _; omega
  · show (d.quotas.take 15).length ≤ _; omega
  · show (d.barred.take 15).length ≤ _; omega
  · exact fun t ht => h.tmatch t (List.mem_of_mem_take ht)
  · exact fun t ht => h.pname t (List.mem_of_mem_take ht)
  · exact fun t ht => h.qname t (List.mem_of_mem_take ht)
  · exact fun t ht => h.bar t (List.mem_of_mem_take ht)
theorem okE {d : DrawL} (h : DrawOk d) (o : Int) : DrawOk { d with kind := o, name := [120] } := ⟨by show [120].length ≤ maxLen; unfold maxLen; decide, h.tiers, h.places, h.quotas, h.barred, h.tmatch, h.pname, h.qname, h.bar⟩

theorem Row.rangeAt {w : World} {g : Nat} {e : TypeId} {cs : List Value} (h : Row w g e cs) : w.rangeAt g 0 cs := fun j v hj => by rw [h.cell, Nat.zero_add]; exact hj
theorem Row.there {w : World} {g : Nat} {e : TypeId} {cs : List Value} (h : Row w g e cs) {n : Nat} (hn : n ≤ cs.length) : w.there g 0 n := fun j hj => ⟨by rw [h.cell, Nat.zero_add, List.getElem?_eq_getElem (by omega)]; rfl, by rw [Nat.zero_add]; exact h.frozen (by omega)⟩
theorem Row.setAll {g : Nat} {e : TypeId} : ∀ (vs : List Value) (o : Nat) (cs : List Value) (w : World), Row w g e cs → o + vs.length ≤ cs.length → Row (w.setCells g o vs) g e (cs.take o ++ vs ++ cs.drop (o + vs.length)) ∧ Upd (· = g) w (w.setCells g o vs)
  | [], o, cs, w, h, _ => ⟨by simpa [World.setCells] using h, Upd.refl _ _⟩
  | v :: vs, o, cs, w, h, hl => by
    have hl' : o + 1 + vs.length ≤ cs.length := by simp at hl; omega
    obtain ⟨h1, h2⟩ := Row.setAll vs (o + 1) (cs.set o v) (w.setCell ⟨g, o, none⟩ v) (h.set o v) (by simpa using hl')
    refine ⟨?_, ((Upd.refl (· = g) w).setCell (p := ⟨g, o, none⟩) (fun _ => rfl) v).trans h2 (fun _ _ h => h)⟩
    have e' := list_seg_step cs o v vs (by simp at hl ⊢; omega)
    rw [e'] at h1
    exact h1
theorem Row.setFull {w : World} {g : Nat} {e : TypeId} {zs cs : List Value} (h : Row w g e zs) (hl : zs.length = cs.length) : Row (w.setCells g 0 cs) g e cs ∧ Upd (· = g) w (w.setCells g 0 cs) := by
  obtain ⟨h1, h2⟩ := Row.setAll cs 0 zs w h (by omega)
  refine ⟨?_, h2⟩
  rw [List.take_zero, List.nil_append, List.drop_of_length_le (by omega), List.append_nil] at h1
  exact h1
theorem wpList_store_all {P : Program} {ops : Array Oper} {rest : List Oper} {o : Oper} {a : Act} {w : World} {Q : Exit → Act → World → Prop} (hgd : o.guard = none) (ty : TypeId) (x y : Operand) (ho : o.op = .store ty x y)
    {g : Nat} {e : TypeId} {zs : List Value} (cs : List Value) (hx : a.eval x = .pointer (some ⟨g, 0, none⟩)) (hy : a.eval y = .agg cs.toArray) (hr : Row w g e zs) (hl : zs.length = cs.length)
    (hi : (P.info? ty).map (·.size) = some cs.toArray.size) (h1 : cs.all (·.oneCell') = true) (h : ∀ w', Row w' g e cs → Upd (· = g) w w' → wpList P ops Q rest (a.put o.dst undef) w') : wpList P ops Q (o :: rest) a w := by
  obtain ⟨h2, h3⟩ := hr.setFull hl
  exact wpList_store_mid hgd ty x y ho g 0 cs.toArray hx hy (hr.there (by simp [hl])) hi (by rw [List.all_toArray]; exact h1) (h _ h2 h3)
theorem Row.rangeOff {w : World} {g : Nat} {e : TypeId} {xs ys : List Value} (h : Row w g e (xs ++ ys)) : w.rangeAt g xs.length ys := fun j v hj => by rw [h.cell, List.getElem?_append_right (by omega)]; simpa using hj
theorem rangeAt_kp {w w' : World} {b o : Nat} {cs : List Value} (h : w.rangeAt b o cs) (hu : Kp w w') : w'.rangeAt b o cs := fun j v hj => hu.cellAt (h j v hj)
theorem Row.rangeFst {w : World} {g : Nat} {e : TypeId} {xs ys : List Value} (h : Row w g e (xs ++ ys)) : w.rangeAt g 0 xs := fun j v hj => by
  have := (List.getElem?_eq_some_iff.1 hj).1
  rw [h.cell, Nat.zero_add, List.getElem?_append_left this]; exact hj
theorem dinE {w : World} {d : DrawL} {vt vp vq vb : Value} (h : DrawIn w d vt vp vq vb) (o : Int) : DrawIn w { d with kind := o, name := [120] } vt vp vq vb := ⟨h.t, h.p, h.q, h.b, okE h.ok o⟩
abbrev zero13 : List Value := [.string ⟨#[]⟩, .int .i64 0, .int .i64 0, .int .i64 0, .int .i64 0, .int .i64 0, .slice none 0 0, .bool false, .slice none 0 0, .int .i64 0, .int .i64 0, .slice none 0 0, .slice none 0 0]
abbrev zero26 : List Value := [.string ⟨#[]⟩, .int .i64 0, .int .i64 0, .int .i64 0, .int .i64 0, .int .i64 0, .slice none 0 0, .bool false, .slice none 0 0, .int .i64 0, .int .i64 0, .slice none 0 0, .slice none 0 0, .string ⟨#[]⟩, .int .i64 0, .int .i64 0, .int .i64 0, .int .i64 0, .int .i64 0, .slice none 0 0, .bool false, .slice none 0 0, .int .i64 0, .int .i64 0, .slice none 0 0, .slice none 0 0]
set_option maxHeartbeats 8000000 in
set_option maxRecDepth 20000 in
theorem raw_true (w : World) (d : DrawL) (A1 A2 A3 A4 : Option Addr) (n1 c1 n2 c2 n3 c3 n4 c4 : Nat) (h : RawIn w d A1 A2 A3 A4 n1 c1 n2 c2 n3 c3 n4 c4) (z1 : Int) (hz1 : 0 ≤ z1) (hy1 : z1 < 256) :
    Calls Try.prog 4 #[dval d (.slice A1 n1 c1) (.slice A2 n2 c2) (.slice A3 n3 c3) (.slice A4 n4 c4), .int .u8 z1] w (SaneP w) := by
  obtain ⟨o, ho⟩ : ∃ o : Nat, z1 % 5 = o := ⟨(z1 % 5).toNat, by omega⟩
  have ho1 : o ≤ 4 := by omega
  have ho2 : z1.tmod 5 = o := by rw [Int.tmod_eq_emod_of_nonneg hz1]; exact ho
  have ho3 : IntKind.u8.wrap (o : Int) = o := by apply IntWalk.u8_in <;> omega
  obtain ⟨m1, hm1⟩ : ∃ m : Nat, m = min n1 15 := ⟨_, rfl⟩
  obtain ⟨m2, hm2⟩ : ∃ m : Nat, m = min n2 15 := ⟨_, rfl⟩
  obtain ⟨m3, hm3⟩ : ∃ m : Nat, m = min n3 15 := ⟨_, rfl⟩
  obtain ⟨m4, hm4⟩ : ∃ m : Nat, m = min n4 15 := ⟨_, rfl⟩
  have M1 : Hid ((if (15 : Int) < (n1 : Int) then (15 : Int) else (n1 : Int)) = m1 ∧ m1 ≤ c1 ∧ n1 ≤ maxLen) := Lib.hid ⟨by split <;> omega, by have := h.t.1.1; have := h.t.2; omega, h.lens.1⟩
  have M2 : Hid ((if (15 : Int) < (n2 : Int) then (15 : Int) else (n2 : Int)) = m2 ∧ m2 ≤ c2 ∧ n2 ≤ maxLen) := Lib.hid ⟨by split <;> omega, by have := h.p.1.1; have := h.p.2; omega, h.lens.2.1⟩
  have M3 : Hid ((if (15 : Int) < (n3 : Int) then (15 : Int) else (n3 : Int)) = m3 ∧ m3 ≤ c3 ∧ n3 ≤ maxLen) := Lib.hid ⟨by split <;> omega, by have := h.q.1.1; have := h.q.2; omega, h.lens.2.2.1⟩
  have M4 : Hid ((if (15 : Int) < (n4 : Int) then (15 : Int) else (n4 : Int)) = m4 ∧ m4 ≤ c4 ∧ n4 ≤ maxLen) := Lib.hid ⟨by split <;> omega, by have := h.b.1.1; have := h.b.2; omega, h.lens.2.2.2⟩
  have CI := Lib.hid (cutIn h hm1 hm2 hm3 hm4)
  clear h hm1 hm2 hm3 hm4 ho
  go_enter Try.func4, Try.ntmps4
  go_upto_region 2 with (go_at_call 10; refine (sanity_any _).mono ?_; rintro en w1 ⟨rfl, hb⟩; have HB1 := Lib.hid hb; have R1 : Hid (Row w1 w.heap.size 30 (dcells d (.slice A1 n1 c1) (.slice A2 n2 c2) (.slice A3 n3 c3) (.slice A4 n4 c4))) := Lib.hid ((Row.new w 30 (dcells d (.slice A1 n1 c1) (.slice A2 n2 c2) (.slice A3 n3 c3) (.slice A4 n4 c4)).toArray).upd hb id); clear hb)
  have HU1 : Hid (Kp w w1) := Lib.hid (Kp.trans ((Upd.refl _ w).alloc _) HB1.out)
  have ca : w1.cell? ⟨w.heap.size, 6, none⟩ = some (.slice A1 n1 c1) := R1.out.cell 6
  have fa := R1.out.frozen (j := 6) (by simp)
  go_upto_region 3 with (first
    | (show wpList _ _ _ (⟨some 19, _, _, _, _, _⟩ :: _) _ _; refine wpList_min rfl _ _ _ rfl rfl rfl M1.out.1 ?_)
    | (show wpList _ _ _ (⟨some 20, _, _, _, _, _⟩ :: _) _ _; refine wpList_cutTo rfl (.tmp 15) (.tmp 19) _ rfl T_tiers rfl rfl M1.out.2.1 ?_))
  obtain ⟨x1, hx1⟩ : ∃ W, W = w1.setCell ⟨w.heap.size, 6, none⟩ (.slice A1 m1 c1) := ⟨_, rfl⟩
  rw [← hx1]
  have Rx1 : Hid (Row x1 w.heap.size 30 [.string ⟨d.name.toArray⟩, .int .i64 d.kind, .int .i64 d.round, .int .i64 d.price, .int .i64 d.pool, .int .i64 d.pick, .slice A1 m1 c1, .bool d.roll, .slice A2 n2 c2, .int .i64 d.cls, .int .i64 d.size, .slice A3 n3 c3, .slice A4 n4 c4]) := Lib.hid (by rw [hx1]; exact R1.out.set 6 _)
  have Ux1 : Hid (Kp w x1) := Lib.hid (Upd.trans HU1.out (by rw [hx1]; exact (Upd.refl (· = w.heap.size) w1).setCell (fun _ => rfl) _) (fun k hk e => by omega))
  clear hx1 ca fa
  have ca : x1.cell? ⟨w.heap.size, 8, none⟩ = some (.slice A2 n2 c2) := Rx1.out.cell 8
  have fa := Rx1.out.frozen (j := 8) (by simp)
  go_upto_region 4 with (first
    | (show wpList _ _ _ (⟨some 27, _, _, _, _, _⟩ :: _) _ _; refine wpList_min rfl _ _ _ rfl rfl rfl M2.out.1 ?_)
    | (show wpList _ _ _ (⟨some 28, _, _, _, _, _⟩ :: _) _ _; refine wpList_cutTo rfl (.tmp 23) (.tmp 27) _ rfl T_places rfl rfl M2.out.2.1 ?_))
  obtain ⟨x2, hx2⟩ : ∃ W, W = x1.setCell ⟨w.heap.size, 8, none⟩ (.slice A2 m2 c2) := ⟨_, rfl⟩
  rw [← hx2]
  have Rx2 : Hid (Row x2 w.heap.size 30 [.string ⟨d.name.toArray⟩, .int .i64 d.kind, .int .i64 d.round, .int .i64 d.price, .int .i64 d.pool, .int .i64 d.pick, .slice A1 m1 c1, .bool d.roll, .slice A2 m2 c2, .int .i64 d.cls, .int .i64 d.size, .slice A3 n3 c3, .slice A4 n4 c4]) := Lib.hid (by rw [hx2]; exact Rx1.out.set 8 _)
  have Ux2 : Hid (Kp w x2) := Lib.hid (Upd.trans Ux1.out (by rw [hx2]; exact (Upd.refl (· = w.heap.size) x1).setCell (fun _ => rfl) _) (fun k hk e => by omega))
  clear hx2 ca fa
  have ca : x2.cell? ⟨w.heap.size, 11, none⟩ = some (.slice A3 n3 c3) := Rx2.out.cell 11
  have fa := Rx2.out.frozen (j := 11) (by simp)
  go_upto_region 5 with (first
    | (show wpList _ _ _ (⟨some 35, _, _, _, _, _⟩ :: _) _ _; refine wpList_min rfl _ _ _ rfl rfl rfl M3.out.1 ?_)
    | (show wpList _ _ _ (⟨some 36, _, _, _, _, _⟩ :: _) _ _; refine wpList_cutTo rfl (.tmp 31) (.tmp 35) _ rfl T_quotas rfl rfl M3.out.2.1 ?_))
  obtain ⟨x3, hx3⟩ : ∃ W, W = x2.setCell ⟨w.heap.size, 11, none⟩ (.slice A3 m3 c3) := ⟨_, rfl⟩
  rw [← hx3]
  have Rx3 : Hid (Row x3 w.heap.size 30 [.string ⟨d.name.toArray⟩, .int .i64 d.kind, .int .i64 d.round, .int .i64 d.price, .int .i64 d.pool, .int .i64 d.pick, .slice A1 m1 c1, .bool d.roll, .slice A2 m2 c2, .int .i64 d.cls, .int .i64 d.size, .slice A3 m3 c3, .slice A4 n4 c4]) := Lib.hid (by rw [hx3]; exact Rx2.out.set 11 _)
  have Ux3 : Hid (Kp w x3) := Lib.hid (Upd.trans Ux2.out (by rw [hx3]; exact (Upd.refl (· = w.heap.size) x2).setCell (fun _ => rfl) _) (fun k hk e => by omega))
  clear hx3 ca fa
  have ca : x3.cell? ⟨w.heap.size, 12, none⟩ = some (.slice A4 n4 c4) := Rx3.out.cell 12
  have fa := Rx3.out.frozen (j := 12) (by simp)
  go_upto_region 6 with (first
    | (show wpList _ _ _ (⟨some 43, _, _, _, _, _⟩ :: _) _ _; refine wpList_min rfl _ _ _ rfl rfl rfl M4.out.1 ?_)
    | (show wpList _ _ _ (⟨some 44, _, _, _, _, _⟩ :: _) _ _; refine wpList_cutTo rfl (.tmp 39) (.tmp 43) _ rfl T_ints rfl rfl M4.out.2.1 ?_))
  obtain ⟨x4, hx4⟩ : ∃ W, W = x3.setCell ⟨w.heap.size, 12, none⟩ (.slice A4 m4 c4) := ⟨_, rfl⟩
  rw [← hx4]
  have Rx4 : Hid (Row x4 w.heap.size 30 [.string ⟨d.name.toArray⟩, .int .i64 d.kind, .int .i64 d.round, .int .i64 d.price, .int .i64 d.pool, .int .i64 d.pick, .slice A1 m1 c1, .bool d.roll, .slice A2 m2 c2, .int .i64 d.cls, .int .i64 d.size, .slice A3 m3 c3, .slice A4 m4 c4]) := Lib.hid (by rw [hx4]; exact Rx3.out.set 12 _)
  have Ux4 : Hid (Kp w x4) := Lib.hid (Upd.trans Ux3.out (by rw [hx4]; exact (Upd.refl (· = w.heap.size) x3).setCell (fun _ => rfl) _) (fun k hk e => by omega))
  clear hx4 ca fa
  obtain ⟨w2, hw2⟩ : ∃ W, W = x4 := ⟨_, rfl⟩
  rw [← hw2] at Rx4 Ux4 ⊢
  clear hw2
  have HU2 := Ux4
  have R2 : Row w2 w.heap.size 30 (dcells (cut15 d) (.slice A1 m1 c1) (.slice A2 m2 c2) (.slice A3 m3 c3) (.slice A4 m4 c4)) := Rx4.out
  have HR2 := Lib.hid R2
  have hlz : w.heap.size < w2.heap.size := R2.lt
  have hne : w.heap.size ≠ w2.heap.size := by omega
  clear R2
  have hagg := Try.underlying30
  go_upto_region 7 with (show wpList _ _ _ (⟨some 46, _, _, _, _, _⟩ :: _) _ _; refine wpList_load_mid rfl 30 (.tmp 2) rfl w.heap.size 0 rfl _ _ HR2.out.rangeAt hagg rfl (by kernel_rfl) ?_)
  go_upto_region 9 with fail
  obtain ⟨w3, hw3⟩ : ∃ W, W = w2.alloc (.cells (dcells { cut15 d with kind := (o : Int), name := [120] } (.slice A1 m1 c1) (.slice A2 m2 c2) (.slice A3 m3 c3) (.slice A4 m4 c4)).toArray 30) := ⟨_, rfl⟩
  change Code.wp _ _ _ _ (w2.alloc (.cells (dcells { cut15 d with kind := (o : Int), name := [120] } (.slice A1 m1 c1) (.slice A2 m2 c2) (.slice A3 m3 c3) (.slice A4 m4 c4)).toArray 30))
  rw [← hw3]
  have RE3 : Hid (Row w3 w2.heap.size 30 [.string ⟨[120].toArray⟩, .int .i64 (o : Int), .int .i64 d.round, .int .i64 d.price, .int .i64 d.pool, .int .i64 d.pick, .slice A1 m1 c1, .bool d.roll, .slice A2 m2 c2, .int .i64 d.cls, .int .i64 d.size, .slice A3 m3 c3, .slice A4 m4 c4]) := Lib.hid (by rw [hw3]; exact Row.new w2 _ _)
  have RD3 : Hid (Row w3 w.heap.size 30 [.string ⟨d.name.toArray⟩, .int .i64 d.kind, .int .i64 d.round, .int .i64 d.price, .int .i64 d.pool, .int .i64 d.pick, .slice A1 m1 c1, .bool d.roll, .slice A2 m2 c2, .int .i64 d.cls, .int .i64 d.size, .slice A3 m3 c3, .slice A4 m4 c4]) := Lib.hid (by rw [hw3]; exact HR2.out.upd ((Upd.refl (fun _ => False) _).alloc _) id)
  have HU3 : Hid (Kp w w3) := Lib.hid (by rw [hw3]; exact HU2.out.trans ((Upd.refl _ _).alloc _))
  clear hw3 hlz hne
  have Q1 : Hid ((Try.prog.info? 39).map (·.size) = some 26) := Lib.hid (by kernel_rfl)
  obtain ⟨cs, hcs⟩ : ∃ cs : List Value, cs = [.string ⟨d.name.toArray⟩, .int .i64 d.kind, .int .i64 d.round, .int .i64 d.price, .int .i64 d.pool, .int .i64 d.pick, .slice A1 m1 c1, .bool d.roll, .slice A2 m2 c2, .int .i64 d.cls, .int .i64 d.size, .slice A3 m3 c3, .slice A4 m4 c4, .string ⟨[120].toArray⟩, .int .i64 (o : Int), .int .i64 d.round, .int .i64 d.price, .int .i64 d.pool, .int .i64 d.pick, .slice A1 m1 c1, .bool d.roll, .slice A2 m2 c2, .int .i64 d.cls, .int .i64 d.size, .slice A3 m3 c3, .slice A4 m4 c4] := ⟨_, rfl⟩
  have Q2 : Hid (cs.all (·.oneCell') = true ∧ cs.length = 26) := Lib.hid (by rw [hcs]; exact ⟨rfl, rfl⟩)
  have HCS := Lib.hid hcs
  clear hcs
  go_upto_region 10 with (first
    | (show wpList _ _ _ (⟨some 52, _, _, _, _, _⟩ :: _) _ _; refine wpList_load_mid rfl 30 (.tmp 2) rfl w.heap.size 0 rfl _ _ RD3.out.rangeAt hagg rfl (by kernel_rfl) ?_)
    | (show wpList _ _ _ (⟨some 53, _, _, _, _, _⟩ :: _) _ _; refine wpList_load_mid rfl 30 (.tmp 6) rfl w2.heap.size 0 rfl _ _ RE3.out.rangeAt hagg rfl (by kernel_rfl) ?_)
    | (show wpList _ _ _ (⟨some 54, _, _, _, _, _⟩ :: _) _ _; refine wpList_buildTo rfl 39 _ rfl (some 54) rfl #[.string ⟨d.name.toArray⟩, .int .i64 d.kind, .int .i64 d.round, .int .i64 d.price, .int .i64 d.pool, .int .i64 d.pick, .slice A1 m1 c1, .bool d.roll, .slice A2 m2 c2, .int .i64 d.cls, .int .i64 d.size, .slice A3 m3 c3, .slice A4 m4 c4, .string ⟨[120].toArray⟩, .int .i64 (o : Int), .int .i64 d.round, .int .i64 d.price, .int .i64 d.pool, .int .i64 d.pick, .slice A1 m1 c1, .bool d.roll, .slice A2 m2 c2, .int .i64 d.cls, .int .i64 d.size, .slice A3 m3 c3, .slice A4 m4 c4] (by kernel_rfl) ?_)
    | (show wpList _ _ _ (⟨none, .store _ _ _, _, _, _, _⟩ :: _) _ _; refine wpList_store_all rfl 39 (.tmp 7) (.tmp 54) rfl cs rfl (by rw [HCS.out]; rfl) (zs := zero26) (e := 39) (Row.new w3 39 zero26.toArray) (by rw [Q2.out.2]; rfl) (by rw [Q1.out, List.size_toArray, Q2.out.2]) Q2.out.1 ?_; intro w4 hr4 hu4; have R4 := Lib.hid hr4; have U4 : Hid (Kp w w4) := Lib.hid (Upd.trans (HU3.out.trans ((Upd.refl _ _).alloc _)) hu4 (fun k hk e => by have := HU3.out.size; omega)); clear hr4 hu4))
  simp only [show ∀ a : Act, a.put none undef = a from fun _ => rfl]
  have HW4 := U4
  have hr4 : Row w4 w3.heap.size 39 ([.string ⟨d.name.toArray⟩, .int .i64 d.kind, .int .i64 d.round, .int .i64 d.price, .int .i64 d.pool, .int .i64 d.pick, .slice A1 m1 c1, .bool d.roll, .slice A2 m2 c2, .int .i64 d.cls, .int .i64 d.size, .slice A3 m3 c3, .slice A4 m4 c4] ++ [.string ⟨[120].toArray⟩, .int .i64 (o : Int), .int .i64 d.round, .int .i64 d.price, .int .i64 d.pool, .int .i64 d.pick, .slice A1 m1 c1, .bool d.roll, .slice A2 m2 c2, .int .i64 d.cls, .int .i64 d.size, .slice A3 m3 c3, .slice A4 m4 c4]) := by have := R4.out; rw [HCS.out] at this; exact this
  have RG0 : Hid (w4.rangeAt w3.heap.size 0 [.string ⟨d.name.toArray⟩, .int .i64 d.kind, .int .i64 d.round, .int .i64 d.price, .int .i64 d.pool, .int .i64 d.pick, .slice A1 m1 c1, .bool d.roll, .slice A2 m2 c2, .int .i64 d.cls, .int .i64 d.size, .slice A3 m3 c3, .slice A4 m4 c4]) := Lib.hid hr4.rangeFst
  have RG1 : Hid (w4.rangeAt w3.heap.size 13 [.string ⟨[120].toArray⟩, .int .i64 (o : Int), .int .i64 d.round, .int .i64 d.price, .int .i64 d.pool, .int .i64 d.pick, .slice A1 m1 c1, .bool d.roll, .slice A2 m2 c2, .int .i64 d.cls, .int .i64 d.size, .slice A3 m3 c3, .slice A4 m4 c4]) := Lib.hid hr4.rangeOff
  clear hr4
  go_wp2_with (fail)
  go_loopw [8] (fun v wr => ∃ k : Nat, k ≤ 2 ∧ v = .int .i64 k ∧ Kp w4 wr) (fun v _ => 2 - (intOf v).toNat)
  case atStart => exact ⟨0, by omega, rfl, Upd.refl _ _⟩
  case round =>
    obtain ⟨k, hk, rfl, hu⟩ := hrel
    have HU := Lib.hid hu
    clear hu
    rcases (show k = 0 ∨ k = 1 ∨ k = 2 by omega) with rfl | rfl | rfl
    · have HP : Hid (DrawIn wr (cut15 d) (.slice A1 m1 c1) (.slice A2 m2 c2) (.slice A3 m3 c3) (.slice A4 m4 c4)) := Lib.hid (CI.out.kp (HW4.out.trans HU.out))
      have RGK := Lib.hid (rangeAt_kp RG0.out HU.out)
      obtain ⟨r, hr⟩ : ∃ r, r = runC (cut15 d) clausesL := ⟨_, rfl⟩
      have hck := check_run wr (cut15 d) (.slice A1 m1 c1) (.slice A2 m2 c2) (.slice A3 m3 c3) (.slice A4 m4 c4) HP.out
      rw [← hr] at hck
      have hpr := run_pair (cut15 d)
      rw [← hr] at hpr
      have HCK := Lib.hid hck
      have HR := Lib.hid hr
      clear hck hr
      obtain ⟨nm, er⟩ := r
      simp only at hpr
      have hcases : (nm = [] ∧ er = 0) ∨ (nm ≠ [] ∧ er ≠ 0) := by
        by_cases h : nm = []
        · exact .inl ⟨h, hpr.1 h⟩
        · exact .inr ⟨h, fun h2 => h (hpr.2 h2)⟩
      clear hpr
      rcases hcases with ⟨hn, he⟩ | ⟨hn, he⟩
      · subst hn he
        go_wp2_with (first
          | (show wpList _ _ _ (⟨some 62, _, _, _, _, _⟩ :: _) _ _; refine wpList_load_mid rfl 30 (.tmp 61) rfl w3.heap.size 0 rfl _ _ RGK.out hagg rfl (by kernel_rfl) ?_) | (go_at_call 13; refine HCK.out.mono ?_; rintro en w5 ⟨rfl, hb⟩; have HB5 := Lib.hid hb; have RG5 := Lib.hid (rangeAt_kp RGK.out hb); clear hb) | (show wpList _ _ _ (⟨some 69, _, _, _, _, _⟩ :: _) _ _; refine wpList_load_mid rfl 30 (.tmp 68) rfl w3.heap.size 0 rfl _ _ RG5.out hagg rfl (by kernel_rfl) ?_) | (go_at_call 14; have hc := rcheck_any w5 (cut15 d) (.slice A1 m1 c1) (.slice A2 m2 c2) (.slice A3 m3 c3) (.slice A4 m4 c4) (HP.out.kp HB5.out); rw [checkR_eq, ← HR.out] at hc; refine hc.mono ?_; clear hc; rintro en w6 ⟨rfl, hb⟩; have HB6 : Hid (Kp wr w6) := Lib.hid (HB5.out.trans hb); clear hb))
        go_roundw
        case rel => exact ⟨0 + 1, by omega, by go_num, HU.out.trans HB6.out⟩
        case measure => simp [intOf]
      · have hb1 : (nm == []) = false := by simpa using hn
        have hb2 : (er == 0) = false := by simpa using he
        clear hn he
        go_wp2_with (first
          | (show wpList _ _ _ (⟨some 62, _, _, _, _, _⟩ :: _) _ _; refine wpList_load_mid rfl 30 (.tmp 61) rfl w3.heap.size 0 rfl _ _ RGK.out hagg rfl (by kernel_rfl) ?_) | (go_at_call 13; refine HCK.out.mono ?_; rintro en w5 ⟨rfl, hb⟩; have HB5 := Lib.hid hb; have RG5 := Lib.hid (rangeAt_kp RGK.out hb); clear hb) | (show wpList _ _ _ (⟨some 69, _, _, _, _, _⟩ :: _) _ _; refine wpList_load_mid rfl 30 (.tmp 68) rfl w3.heap.size 0 rfl _ _ RG5.out hagg rfl (by kernel_rfl) ?_) | (go_at_call 14; have hc := rcheck_any w5 (cut15 d) (.slice A1 m1 c1) (.slice A2 m2 c2) (.slice A3 m3 c3) (.slice A4 m4 c4) (HP.out.kp HB5.out); rw [checkR_eq, ← HR.out] at hc; refine hc.mono ?_; clear hc; rintro en w6 ⟨rfl, hb⟩; have HB6 : Hid (Kp wr w6) := Lib.hid (HB5.out.trans hb); clear hb))
        go_roundw
        case rel => exact ⟨0 + 1, by omega, by go_num, HU.out.trans HB6.out⟩
        case measure => simp [intOf]
    · have HP : Hid (DrawIn wr { cut15 d with kind := (o : Int), name := [120] } (.slice A1 m1 c1) (.slice A2 m2 c2) (.slice A3 m3 c3) (.slice A4 m4 c4)) := Lib.hid ((dinE CI.out (o : Int)).kp (HW4.out.trans HU.out))
      have RGK := Lib.hid (rangeAt_kp RG1.out HU.out)
      obtain ⟨r, hr⟩ : ∃ r, r = runC { cut15 d with kind := (o : Int), name := [120] } clausesL := ⟨_, rfl⟩
      have hck := check_run wr { cut15 d with kind := (o : Int), name := [120] } (.slice A1 m1 c1) (.slice A2 m2 c2) (.slice A3 m3 c3) (.slice A4 m4 c4) HP.out
      rw [← hr] at hck
      have hpr := run_pair { cut15 d with kind := (o : Int), name := [120] }
      rw [← hr] at hpr
      have HCK := Lib.hid hck
      have HR := Lib.hid hr
      clear hck hr
      obtain ⟨nm, er⟩ := r
      simp only at hpr
      have hcases : (nm = [] ∧ er = 0) ∨ (nm ≠ [] ∧ er ≠ 0) := by
        by_cases h : nm = []
        · exact .inl ⟨h, hpr.1 h⟩
        · exact .inr ⟨h, fun h2 => h (hpr.2 h2)⟩
      clear hpr
      rcases hcases with ⟨hn, he⟩ | ⟨hn, he⟩
      · subst hn he
        go_wp2_with (first
          | (show wpList _ _ _ (⟨some 62, _, _, _, _, _⟩ :: _) _ _; refine wpList_load_mid rfl 30 (.tmp 61) rfl w3.heap.size 13 rfl _ _ RGK.out hagg rfl (by kernel_rfl) ?_) | (go_at_call 13; refine HCK.out.mono ?_; rintro en w5 ⟨rfl, hb⟩; have HB5 := Lib.hid hb; have RG5 := Lib.hid (rangeAt_kp RGK.out hb); clear hb) | (show wpList _ _ _ (⟨some 69, _, _, _, _, _⟩ :: _) _ _; refine wpList_load_mid rfl 30 (.tmp 68) rfl w3.heap.size 13 rfl _ _ RG5.out hagg rfl (by kernel_rfl) ?_) | (go_at_call 14; have hc := rcheck_any w5 { cut15 d with kind := (o : Int), name := [120] } (.slice A1 m1 c1) (.slice A2 m2 c2) (.slice A3 m3 c3) (.slice A4 m4 c4) (HP.out.kp HB5.out); rw [checkR_eq, ← HR.out] at hc; refine hc.mono ?_; clear hc; rintro en w6 ⟨rfl, hb⟩; have HB6 : Hid (Kp wr w6) := Lib.hid (HB5.out.trans hb); clear hb))
        go_roundw
        case rel => exact ⟨1 + 1, by omega, by go_num, HU.out.trans HB6.out⟩
        case measure => simp [intOf]
      · have hb1 : (nm == []) = false := by simpa using hn
        have hb2 : (er == 0) = false := by simpa using he
        clear hn he
        go_wp2_with (first
          | (show wpList _ _ _ (⟨some 62, _, _, _, _, _⟩ :: _) _ _; refine wpList_load_mid rfl 30 (.tmp 61) rfl w3.heap.size 13 rfl _ _ RGK.out hagg rfl (by kernel_rfl) ?_) | (go_at_call 13; refine HCK.out.mono ?_; rintro en w5 ⟨rfl, hb⟩; have HB5 := Lib.hid hb; have RG5 := Lib.hid (rangeAt_kp RGK.out hb); clear hb) | (show wpList _ _ _ (⟨some 69, _, _, _, _, _⟩ :: _) _ _; refine wpList_load_mid rfl 30 (.tmp 68) rfl w3.heap.size 13 rfl _ _ RG5.out hagg rfl (by kernel_rfl) ?_) | (go_at_call 14; have hc := rcheck_any w5 { cut15 d with kind := (o : Int), name := [120] } (.slice A1 m1 c1) (.slice A2 m2 c2) (.slice A3 m3 c3) (.slice A4 m4 c4) (HP.out.kp HB5.out); rw [checkR_eq, ← HR.out] at hc; refine hc.mono ?_; clear hc; rintro en w6 ⟨rfl, hb⟩; have HB6 : Hid (Kp wr w6) := Lib.hid (HB5.out.trans hb); clear hb))
        go_roundw
        case rel => exact ⟨1 + 1, by omega, by go_num, HU.out.trans HB6.out⟩
        case measure => simp [intOf]
    · go_wp2_with (fail)
      go_ret
      exact ⟨rfl, HW4.out.trans HU.out⟩
end Go.Proofs.Ytaejnhgnacgheaa
