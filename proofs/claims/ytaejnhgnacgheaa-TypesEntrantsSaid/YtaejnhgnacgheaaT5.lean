/- types: the rules as a plain record; tiers, places and quotas as plain functions. -/
import Derived.Test.YtaejnhgnacgheaaT4
import Derived.Test.YtaejnhgnacgheaaAny
namespace Go.Proofs.Ytaejnhgnacgheaa
set_option linter.unusedVariables false
set_option linter.unusedSimpArgs false
open Go.RowKit

structure DrawL where
  name : List UInt8
  kind : Int
  round : Int
  price : Int
  pool : Int
  pick : Int
  tiers : List (Int × Int)
  roll : Bool
  places : List (List UInt8 × Int)
  cls : Int
  size : Int
  quotas : List (List UInt8 × Int × Int)
  barred : List Int
  deriving Inhabited

abbrev dcells (d : DrawL) (vt vp vq vb : Value) : List Value :=
  [.string ⟨d.name.toArray⟩, .int .i64 d.kind, .int .i64 d.round, .int .i64 d.price, .int .i64 d.pool, .int .i64 d.pick, vt, .bool d.roll, vp, .int .i64 d.cls, .int .i64 d.size, vq, vb]
abbrev dval (d : DrawL) (vt vp vq vb : Value) : Value :=
  .agg #[.string ⟨d.name.toArray⟩, .int .i64 d.kind, .int .i64 d.round, .int .i64 d.price, .int .i64 d.pool, .int .i64 d.pick, vt, .bool d.roll, vp, .int .i64 d.cls, .int .i64 d.size, vq, vb]
structure DrawOk (d : DrawL) : Prop where
  name : d.name.length ≤ maxLen
  tiers : d.tiers.length ≤ 1000000
  places : d.places.length ≤ 1000000
  quotas : d.quotas.length ≤ 1000000
  barred : d.barred.length ≤ 1000000
  tmatch : ∀ t, t ∈ d.tiers → in64 t.1
  pname : ∀ p, p ∈ d.places → okS p.1
  qname : ∀ q, q ∈ d.quotas → okS q.1
  bar : ∀ b, b ∈ d.barred → in64 b
structure DrawIn (w : World) (d : DrawL) (vt vp vq vb : Value) : Prop where
  t : Tiers w vt d.tiers
  p : Places w vp d.places
  q : Quotas w vq d.quotas
  b : Nums w vb d.barred
  ok : DrawOk d
theorem DrawIn.kp {w w' : World} {d : DrawL} {vt vp vq vb : Value} (h : DrawIn w d vt vp vq vb) (hu : Kp w w') : DrawIn w' d vt vp vq vb :=
  ⟨h.t.upd hu, h.p.upd hu, h.q.upd hu, h.b.upd hu, h.ok⟩

def tiersL (d : DrawL) : Int :=
  firstL [unl (inR d.tiers.length 1 12) 2, unl (d.tiers.all (tierOk d.pick)) 15, unl (!rep (d.tiers.map (·.1))) 33, unl (decide ((if d.tiers.all (tierOk d.pick) then (d.tiers.map (·.2)).sum else 0) ≤ 100)) 15]
def placesL (d : DrawL) : Int :=
  firstL [unl (inR d.places.length 1 12) 2, unl ((d.places.map (·.1)).all isWord) 13, unl (d.places.all placeOk) 15, unl (!rep (d.places.map (·.1))) 33]
def quotasL (d : DrawL) : Int :=
  firstL [unl (decide ((d.quotas.length : Int) ≤ 12)) 2, unl ((d.quotas.map (·.1)).all isWord) 13, unl (d.quotas.all (quotaOk d.size)) 15, unl (!rep (d.quotas.map (·.1))) 33]

theorem enters_word : ∀ args w, (callFunc 51 args).run Try.prog w = .ok (.enter 51 args) w := Go.Proofs.enters_of Try.func51 (by kernel_rfl) rfl
theorem word_ok (w : World) (L : List (List UInt8)) (h : ∀ x, x ∈ L → okS x) : PredOk Try.prog 51 #[] valS isWord L w := fun W x hx hb => by
  have := word_any W x (h x hx)
  exact this

theorem lst_new {α : Type} {k : Nat} {enc : α → List Value} (hk : ∀ x, (enc x).length = k) (w : World) (e : TypeId) (cs : Array Value) (L : List α) (h : cs.toList = L.flatMap enc) :
    Lst k enc (w.alloc (.cells cs e)) (.slice (some ⟨w.heap.size, 0, none⟩) L.length L.length) L := by
  refine ⟨_, _, rfl, Nat.le_refl _, by simp, ?_⟩
  rintro ad ⟨⟩
  refine ⟨rfl, by simp, fun j x hj i u hi => ?_⟩
  have hr := (Row.new w e cs).cell (0 + j * k + i)
  rw [hr, h, Nat.zero_add]
  exact flat_get hk L j x hj i u hi
theorem World.alloc_cell_old {w : World} {a : Addr} {v : Value} {o : Obj} (h : w.cell? a = some v) : (w.alloc o).cell? a = some v := Kp.cellAt ((Upd.refl _ w).alloc o) h

theorem nums2 (w : World) (e : TypeId) (a b : Int) : Nums (w.alloc (.cells #[.int .i64 a, .int .i64 b] e)) (.slice (some ⟨w.heap.size, 0, none⟩) 2 2) [a, b] := lst_new (k := 1) (enc := numE) (fun _ => rfl) w e _ [a, b] rfl
theorem nums3 (w : World) (e : TypeId) (a b c : Int) : Nums (w.alloc (.cells #[.int .i64 a, .int .i64 b, .int .i64 c] e)) (.slice (some ⟨w.heap.size, 0, none⟩) 3 3) [a, b, c] := lst_new (k := 1) (enc := numE) (fun _ => rfl) w e _ [a, b, c] rfl
theorem nums4 (w : World) (e : TypeId) (a b c d : Int) : Nums (w.alloc (.cells #[.int .i64 a, .int .i64 b, .int .i64 c, .int .i64 d] e)) (.slice (some ⟨w.heap.size, 0, none⟩) 4 4) [a, b, c, d] := lst_new (k := 1) (enc := numE) (fun _ => rfl) w e _ [a, b, c, d] rfl
theorem four_len : 4 ≤ maxLen := by unfold maxLen; omega
theorem sum_step {L : List (Int × Int)} {k : Nat} (hk : k < L.length) : ((L.take (k + 1)).map (·.2)).sum = ((L.take k).map (·.2)).sum + L[k].2 := by
  rw [List.take_succ_eq_append_getElem hk, List.map_append, List.sum_append]
  simp
theorem sum_bd {L : List (Int × Int)} (h : ∀ t, t ∈ L → 1 ≤ t.2 ∧ t.2 ≤ 100) : ∀ k, 0 ≤ ((L.take k).map (·.2)).sum ∧ ((L.take k).map (·.2)).sum ≤ 100 * L.length := by
  intro k
  suffices hs : ∀ M : List (Int × Int), (∀ t, t ∈ M → 1 ≤ t.2 ∧ t.2 ≤ 100) → 0 ≤ (M.map (·.2)).sum ∧ (M.map (·.2)).sum ≤ 100 * M.length by
    have := hs (L.take k) (fun t ht => h t (List.mem_of_mem_take ht))
    have h2 : (L.take k).length ≤ L.length := by rw [List.length_take]; exact Nat.min_le_right _ _
    omega
  intro M
  induction M with
  | nil => intro _; simp
  | cons t M ih =>
    intro hM
    have h1 := hM t List.mem_cons_self
    have h2 := ih (fun u hu => hM u (List.mem_cons_of_mem _ hu))
    simp only [List.map_cons, List.sum_cons, List.length_cons]
    omega
theorem two_len : 2 ≤ maxLen := by unfold maxLen; omega

set_option maxHeartbeats 2000000 in
set_option maxRecDepth 20000 in
theorem places_any (w : World) (d : DrawL) (vt vp vq vb : Value) (h : DrawIn w d vt vp vq vb) : Calls Try.prog 61 #[dval d vt vp vq vb] w (Gives w (.int .i64 (placesL d))) := by
  obtain ⟨A, c, rfl, hA⟩ := h.p
  have HA := Lib.hid hA
  obtain ⟨names, hnm⟩ : ∃ l, l = d.places.map (·.1) := ⟨_, rfl⟩
  obtain ⟨n, hn⟩ : ∃ n, n = d.places.length := ⟨_, rfl⟩
  have hr : placesL d = firstL [unl (inR n 1 12) 2, unl (names.all isWord) 13, unl (d.places.all placeOk) 15, unl (!rep names) 33] := by rw [hnm, hn]; rfl
  rw [hr]
  rw [← hn]
  have hN : n ≤ 1000000 := by rw [hn]; exact h.ok.places
  have HN := Lib.hid hn
  have HPN : Hid (∀ x, x ∈ names → okS x) := Lib.hid (fun x hx => by rw [hnm] at hx; obtain ⟨p, hp, rfl⟩ := List.mem_map.1 hx; exact h.ok.pname p hp)
  have HL0 : Hid (names.length = n) := Lib.hid (by rw [hnm, List.length_map, hn])
  have HNM := Lib.hid hnm
  have HLP : Hid (Lst 2 placeE w (.slice A n c) d.places) := Lib.hid (by rw [hn]; exact ⟨A, c, rfl, hA⟩)
  clear h hA hn hr hnm
  obtain ⟨bw, hbw⟩ : ∃ b, b = names.all isWord := ⟨_, rfl⟩
  obtain ⟨bp, hbp⟩ : ∃ b, b = d.places.all placeOk := ⟨_, rfl⟩
  obtain ⟨br, hbr⟩ : ∃ b, b = rep names := ⟨_, rfl⟩
  rw [← hbw, ← hbp, ← hbr]
  have HBW := Lib.hid hbw
  have HBP := Lib.hid hbp
  have HBR := Lib.hid hbr
  clear hbw hbp hbr
  go_enter Try.func61, Try.ntmps61
  go_wp2_with (show Calls _ _ _ (World.alloc _ _) _; have hc := applyP_any (w.alloc (.cells (dcells d vt (.slice A n c) vq vb).toArray 30)) (.slice A n c) d.places (HLP.out.upd ((Upd.refl _ w).alloc _)) (by have := HN.out; omega); rw [← HNM.out] at hc; refine hc.mono ?_; clear hc; rintro e w1 ⟨v1, rfl, hl, hb⟩; obtain ⟨A1, c1, e1, hl1⟩ := hl; rw [HL0.out] at e1; subst e1; have HL : Hid (Strs w1 (.slice A1 n c1) names) := Lib.hid ⟨A1, c1, by rw [HL0.out], hl1⟩; have HB := Lib.hid hb; clear hl1 hb)
  have c8 : w1.cell? ⟨w.heap.size, 8, none⟩ = some (.slice A n c) := HB.out.cellAt (by simp)
  have HU1 : Hid (Kp w w1) := Lib.hid (Kp.trans ((Upd.refl _ w).alloc _) HB.out)
  go_region_held3 (fun w' => w'.cell? ⟨w.heap.size, 8, none⟩ = some (.slice A n c)) (first | exact c8 | go_keep) ((first
    | (go_at_call 42; refine (within_any _ _ _ _).mono ?_; rintro e wa ⟨rfl, rfl⟩)
    | (go_at_call 41; refine (unless_any _ _ _).mono ?_; rintro e wa ⟨rfl, rfl⟩)
    | (go_at_call 71; have hc := allS_any w1.drew (.slice A1 n c1) names HL.out (by rw [HL0.out]; omega) _ _ isWord (word_ok _ _ HPN.out) enters_word; rw [← HBW.out] at hc; refine hc.mono ?_; clear hc; rintro e w2 ⟨rfl, hb0⟩; have hb : Kp w1 w2 := (Kp.trans ((Upd.refl _ w1).drew) hb0); clear hb0; have HB2 : Hid (Kp w1 w2) := Lib.hid hb; have c8 := hb.cellAt c8; clear hb)
    | (go_at_call 84; have hc := allP_any w2 (.slice A n c) d.places (HLP.out.upd (HU1.out.trans HB2.out)) (by have := HN.out; omega) 85 #[] placeOk (places2_ok _ _) (Go.Proofs.enters_of Try.func85 (by kernel_rfl) rfl); rw [← HBP.out] at hc; refine hc.mono ?_; clear hc; rintro e w3 ⟨rfl, hb⟩; have HB3 : Hid (Kp w1 w3) := Lib.hid (HB2.out.trans hb); have c8 := hb.cellAt c8; clear hb)
    | (go_at_call 72; have hc := twiceS_any w3 (.slice A1 n c1) names (HL.out.upd HB3.out) (by rw [HL0.out]; omega) HPN.out; rw [← HBR.out] at hc; refine hc.mono ?_; clear hc; rintro e w4 ⟨rfl, hb⟩; have HB4 : Hid (Kp w1 w4) := Lib.hid (HB3.out.trans hb); have c8 := hb.cellAt c8; clear hb)
    | (go_at_call 40; refine (first_any _ _ [unl (inR n 1 12) 2, unl bw 13, unl bp 15, unl (!br) 33] (nums4 w4 34 _ _ _ _) four_len).mono ?_; rintro e w5 ⟨rfl, hb⟩; have HB5 : Hid (Kp w1 w5) := Lib.hid (HB4.out.trans (Kp.trans ((Upd.refl _ w4).alloc _) hb)); have c8 := hb.cellAt (World.alloc_cell_old c8); clear hb)))
  all_goals go_wp2
  all_goals go_ret
  all_goals exact ⟨rfl, HU1.out.trans HB5.out⟩

set_option maxHeartbeats 2000000 in
set_option maxRecDepth 20000 in
theorem quotas_any (w : World) (d : DrawL) (vt vp vq vb : Value) (h : DrawIn w d vt vp vq vb) : Calls Try.prog 64 #[dval d vt vp vq vb] w (Gives w (.int .i64 (quotasL d))) := by
  obtain ⟨A, c, rfl, hA⟩ := h.q
  have HA := Lib.hid hA
  obtain ⟨names, hnm⟩ : ∃ l, l = d.quotas.map (·.1) := ⟨_, rfl⟩
  obtain ⟨n, hn⟩ : ∃ n, n = d.quotas.length := ⟨_, rfl⟩
  have hr : quotasL d = firstL [unl (decide ((n : Int) ≤ 12)) 2, unl (names.all isWord) 13, unl (d.quotas.all (quotaOk d.size)) 15, unl (!rep names) 33] := by rw [hnm, hn]; rfl
  rw [hr]
  rw [← hn]
  have hN : n ≤ 1000000 := by rw [hn]; exact h.ok.quotas
  have HN := Lib.hid hn
  have HPN : Hid (∀ x, x ∈ names → okS x) := Lib.hid (fun x hx => by rw [hnm] at hx; obtain ⟨p, hp, rfl⟩ := List.mem_map.1 hx; exact h.ok.qname p hp)
  have HL0 : Hid (names.length = n) := Lib.hid (by rw [hnm, List.length_map, hn])
  have HNM := Lib.hid hnm
  have HLP : Hid (Lst 3 quotaE w (.slice A n c) d.quotas) := Lib.hid (by rw [hn]; exact ⟨A, c, rfl, hA⟩)
  clear h hA hn hr hnm
  obtain ⟨bw, hbw⟩ : ∃ b, b = names.all isWord := ⟨_, rfl⟩
  obtain ⟨bp, hbp⟩ : ∃ b, b = d.quotas.all (quotaOk d.size) := ⟨_, rfl⟩
  obtain ⟨br, hbr⟩ : ∃ b, b = rep names := ⟨_, rfl⟩
  rw [← hbw, ← hbp, ← hbr]
  have HBW := Lib.hid hbw
  have HBP := Lib.hid hbp
  have HBR := Lib.hid hbr
  clear hbw hbp hbr
  go_enter Try.func64, Try.ntmps64
  go_wp2_with (show Calls _ _ _ (World.alloc _ _) _; have hc := applyQ_any (w.alloc (.cells (dcells d vt vp (.slice A n c) vb).toArray 30)) (.slice A n c) d.quotas (HLP.out.upd ((Upd.refl _ w).alloc _)) (by have := HN.out; omega); rw [← HNM.out] at hc; refine hc.mono ?_; clear hc; rintro e w1 ⟨v1, rfl, hl, hb⟩; obtain ⟨A1, c1, e1, hl1⟩ := hl; rw [HL0.out] at e1; subst e1; have HL : Hid (Strs w1 (.slice A1 n c1) names) := Lib.hid ⟨A1, c1, by rw [HL0.out], hl1⟩; have HB := Lib.hid hb; clear hl1 hb)
  have c8 : w1.cell? ⟨w.heap.size, 11, none⟩ = some (.slice A n c) := HB.out.cellAt (by simp)
  have c10 : w1.cell? ⟨w.heap.size, 10, none⟩ = some (.int .i64 d.size) := HB.out.cellAt (by simp)
  have HU1 : Hid (Kp w w1) := Lib.hid (Kp.trans ((Upd.refl _ w).alloc _) HB.out)
  go_region_held3 (fun w' => w'.cell? ⟨w.heap.size, 11, none⟩ = some (.slice A n c) ∧ w'.cell? ⟨w.heap.size, 10, none⟩ = some (.int .i64 d.size)) (first | exact ⟨c8, c10⟩ | go_keep) ((first
    | (go_at_call 42; refine (within_any _ _ _ _).mono ?_; rintro e wa ⟨rfl, rfl⟩)
    | (go_at_call 41; refine (unless_any _ _ _).mono ?_; rintro e wa ⟨rfl, rfl⟩)
    | (go_at_call 71; have hc := allS_any w1.drew (.slice A1 n c1) names HL.out (by rw [HL0.out]; omega) _ _ isWord (word_ok _ _ HPN.out) enters_word; rw [← HBW.out] at hc; refine hc.mono ?_; clear hc; rintro e w2 ⟨rfl, hb0⟩; have hb : Kp w1 w2 := (Kp.trans ((Upd.refl _ w1).drew) hb0); clear hb0; have HB2 : Hid (Kp w1 w2) := Lib.hid hb; have c8 := hb.cellAt c8; have c10 := hb.cellAt c10; clear hb)
    | (go_at_call 88; have hc := allQ_any w2 (.slice A n c) d.quotas (HLP.out.upd (HU1.out.trans HB2.out)) (by have := HN.out; omega) 89 #[.pointer (some ⟨w.heap.size, 0, none⟩)] (quotaOk d.size) (quotas2_ok _ _ _ _ c10) (Go.Proofs.enters_of Try.func89 (by kernel_rfl) rfl); rw [← HBP.out] at hc; refine hc.mono ?_; clear hc; rintro e w3 ⟨rfl, hb⟩; have HB3 : Hid (Kp w1 w3) := Lib.hid (HB2.out.trans hb); have c8 := hb.cellAt c8; have c10 := hb.cellAt c10; clear hb)
    | (go_at_call 72; have hc := twiceS_any w3 (.slice A1 n c1) names (HL.out.upd HB3.out) (by rw [HL0.out]; omega) HPN.out; rw [← HBR.out] at hc; refine hc.mono ?_; clear hc; rintro e w4 ⟨rfl, hb⟩; have HB4 : Hid (Kp w1 w4) := Lib.hid (HB3.out.trans hb); have c8 := hb.cellAt c8; have c10 := hb.cellAt c10; clear hb)
    | (go_at_call 40; refine (first_any _ _ [unl (decide ((n : Int) ≤ 12)) 2, unl bw 13, unl bp 15, unl (!br) 33] (nums4 w4 34 _ _ _ _) four_len).mono ?_; rintro e w5 ⟨rfl, hb⟩; have HB5 : Hid (Kp w1 w5) := Lib.hid (HB4.out.trans (Kp.trans ((Upd.refl _ w4).alloc _) hb)); have c8 := hb.cellAt (World.alloc_cell_old c8); have c10 := hb.cellAt (World.alloc_cell_old c10); clear hb)))
  all_goals go_wp2
  all_goals go_ret
  all_goals exact ⟨rfl, HU1.out.trans HB5.out⟩

theorem Kp.drewR {w w' : World} (h : Kp w w') : Kp w w'.drew := Upd.drew h
set_option maxHeartbeats 2000000 in
set_option maxRecDepth 20000 in
theorem tiers_any (w : World) (d : DrawL) (vt vp vq vb : Value) (h : DrawIn w d vt vp vq vb) : Calls Try.prog 60 #[dval d vt vp vq vb] w (Gives w (.int .i64 (tiersL d))) := by
  obtain ⟨A, c, rfl, hA⟩ := h.t
  have HA := Lib.hid hA
  obtain ⟨ms, hnm⟩ : ∃ l, l = d.tiers.map (·.1) := ⟨_, rfl⟩
  obtain ⟨n, hn⟩ : ∃ n, n = d.tiers.length := ⟨_, rfl⟩
  obtain ⟨q, hq⟩ : ∃ b, b = d.tiers.all (tierOk d.pick) := ⟨_, rfl⟩
  obtain ⟨br, hbr⟩ : ∃ b, b = rep ms := ⟨_, rfl⟩
  have hr : ∃ s, s = (if q then (d.tiers.map (·.2)).sum else 0) ∧ tiersL d = firstL [unl (inR n 1 12) 2, unl q 15, unl (!br) 33, unl (decide (s ≤ 100)) 15] := ⟨_, rfl, by rw [hbr, hnm, hn, hq]; rfl⟩
  obtain ⟨s, hs, hr⟩ := hr
  have HS := Lib.hid hr
  rw [← hn]
  have hN : n ≤ 1000000 := by rw [hn]; exact h.ok.tiers
  have HN := Lib.hid hn
  have HPN : Hid (∀ x, x ∈ ms → in64 x) := Lib.hid (fun x hx => by rw [hnm] at hx; obtain ⟨p, hp, rfl⟩ := List.mem_map.1 hx; exact h.ok.tmatch p hp)
  have HL0 : Hid (ms.length = n) := Lib.hid (by rw [hnm, List.length_map, hn])
  have HNM := Lib.hid hnm
  have HBR := Lib.hid hbr
  have HQ := Lib.hid hq
  have HLP : Hid (Lst 2 tierE w (.slice A n c) d.tiers) := Lib.hid (by rw [hn]; exact ⟨A, c, rfl, hA⟩)
  clear hr hbr hnm
  have e79 : ∀ args w, (callFunc 79 args).run Try.prog w = .ok (.enter 79 args) w := Go.Proofs.enters_of Try.func79 (by kernel_rfl) rfl
  have hall := allT_any (w.alloc (.cells (dcells d (.slice A n c) vp vq vb).toArray 30)) (.slice A n c) d.tiers (HLP.out.upd ((Upd.refl _ w).alloc _)) (by have := HN.out; omega) 79 #[.pointer (some ⟨w.heap.size, 0, none⟩)] (tierOk d.pick) (tiers1_ok _ _ _ _ (by simp)) e79
  rw [← hq] at hall
  have HALL := Lib.hid hall
  clear h hA hn hq hall e79
  cases q with
  | false =>
    simp only [Bool.false_eq_true, if_false] at hs
    subst hs
    go_enter Try.func60, Try.ntmps60
    go_wp2_with (show Calls _ _ _ (World.alloc _ _) _; refine HALL.out.mono ?_; rintro e w1 ⟨rfl, hb⟩; have HU1 : Hid (Kp w w1 ∧ w1.cell? ⟨w.heap.size, 6, none⟩ = some (.slice A n c)) := Lib.hid ⟨Kp.trans ((Upd.refl _ w).alloc _) hb, hb.cellAt (by simp)⟩; clear hb)

    have c6 : w1.cell? ⟨w.heap.size, 6, none⟩ = some (.slice A n c) := HU1.out.2
    go_region_held3 (fun w' => w'.cell? ⟨w.heap.size, 6, none⟩ = some (.slice A n c)) (first | exact c6 | go_keep) ((first
      | (go_at_call 42; refine (within_any _ _ _ _).mono ?_; rintro e wa ⟨rfl, rfl⟩)
      | (go_at_call 41; refine (unless_any _ _ _).mono ?_; rintro e wa ⟨rfl, rfl⟩)
      | (go_at_call 80; have hc := applyT_any w1.drew (.slice A n c) d.tiers (HLP.out.upd (Kp.drewR HU1.out.1)) (by have := HN.out; omega); rw [← HNM.out] at hc; refine hc.mono ?_; clear hc; rintro e w2 ⟨v1, rfl, hl, hb0⟩; have hb : Kp w1 w2 := (Kp.trans (Kp.drewR (Upd.refl _ w1)) hb0); clear hb0; obtain ⟨A1, c1, e1, hl1⟩ := hl; rw [HL0.out] at e1; subst e1; have HL : Hid (Nums w2 (.slice A1 n c1) ms) := Lib.hid ⟨A1, c1, by rw [HL0.out], hl1⟩; have HB2 : Hid (Kp w w2) := Lib.hid (HU1.out.1.trans hb); have c6 := hb.cellAt c6; clear hb hl1)
      | (go_at_call 57; have hc := twiceI_any w2 (.slice A1 n c1) ms HL.out (by rw [HL0.out]; omega) HPN.out; rw [← HBR.out] at hc; refine hc.mono ?_; clear hc; rintro e w4 ⟨rfl, hb⟩; have HB4 : Hid (Kp w w4) := Lib.hid (HB2.out.trans hb); have c6 := hb.cellAt c6; clear hb)
      | (go_at_call 40; refine (first_any _ _ [unl (inR n 1 12) 2, unl false 15, unl (!br) 33, unl (decide ((0 : Int) ≤ 100)) 15] (nums4 w4 34 _ _ _ _) four_len).mono ?_; rintro e w5 ⟨rfl, hb⟩; have HB5 : Hid (Kp w w5) := Lib.hid (HB4.out.trans (Kp.trans ((Upd.refl _ w4).alloc _) hb)); have c6 := hb.cellAt (World.alloc_cell_old c6); clear hb)))
    all_goals go_wp2
    all_goals go_ret
    all_goals exact ⟨by rw [HS.out]; rfl, HB5.out⟩

  | true =>
    have hbd : ∀ t, t ∈ d.tiers → 1 ≤ t.2 ∧ t.2 ≤ 100 := fun t ht => by
      have h1 := List.all_eq_true.1 HQ.out.symm t ht
      unfold tierOk inR at h1
      simp only [Bool.and_eq_true, decide_eq_true_eq] at h1
      exact h1.2
    have HBD := Lib.hid hbd
    have HSB := Lib.hid (sum_bd hbd)
    simp only [if_true] at hs
    have HSS := Lib.hid hs
    clear hbd hs
    go_enter Try.func60, Try.ntmps60
    go_wp2_with (show Calls _ _ _ (World.alloc _ _) _; refine HALL.out.mono ?_; rintro e w0 ⟨rfl, hb⟩; have HU0 : Hid (Kp w w0 ∧ w0.cell? ⟨w.heap.size, 6, none⟩ = some (.slice A n c)) := Lib.hid ⟨Kp.trans ((Upd.refl _ w).alloc _) hb, hb.cellAt (by simp)⟩; have c6 := HU0.out.2; clear hb)
    go_loopw [3, 6, 15] (fun v3 _ v wr => ∃ k : Nat, k ≤ n ∧ v = .int .i64 k ∧ v3 = .int .i64 ((d.tiers.take k).map (·.2)).sum ∧ Kp w0 wr) (fun _ _ v _ => n - (intOf v).toNat)
    case atStart => exact ⟨0, Nat.zero_le _, rfl, by simp, Upd.refl _ _⟩
    case round =>
      obtain ⟨k, hk, rfl, rfl, hu⟩ := hrel
      have HU := Lib.hid hu
      clear hu c6
      by_cases hlt : k < n
      · have hkl : k < d.tiers.length := by have := HN.out; omega
        obtain ⟨gA, oA, hA, hc0, hc1⟩ := (HA.out.upd (HU0.out.1.trans HU.out)).at2 hkl
        subst hA
        have hx1 := HBD.out d.tiers[k] (List.getElem_mem _)
        have HST := Lib.hid (sum_step hkl)
        have hsb := HSB.out k
        obtain ⟨s0, hs0⟩ : ∃ s0, s0 = ((d.tiers.take k).map (·.2)).sum := ⟨_, rfl⟩
        rw [← hs0] at hsb ⊢
        have hln : d.tiers.length = n := HN.out.symm
        rw [hln] at hsb
        obtain ⟨x, hx⟩ : ∃ x, x = d.tiers[k] := ⟨_, rfl⟩
        rw [← hx] at hc0 hc1 hx1
        have HX := Lib.hid hx
        have HS0 := Lib.hid hs0
        clear hx hs0 hln
        have hk0 : (0 : Int) ≤ k := by omega
        have hk1 : (k : Int) < n := by omega
        have hwr : IntKind.i64.wrap (s0 + x.2) = s0 + x.2 := (by rw [IntKind.wrap_i64]; omega)
        have hwr2 : wrap64 (s0 + x.2) = s0 + x.2 := (by unfold wrap64; omega)
        clear hx1 hsb
        go_wp2
        go_roundw
        case rel => exact ⟨k + 1, by omega, by go_num, by rw [HST.out, ← HX.out, ← HS0.out], HU.out.alloc _⟩
        case measure => simp [intOf]; omega
      · have hkn : k = n := by omega
        subst hkn
        have hsum : ((d.tiers.take k).map (·.2)).sum = s := by rw [HSS.out, List.take_of_length_le (by rw [← HN.out]; exact Nat.le_refl _)]
        rw [hsum]
        have HU1 : Hid (Kp w wr ∧ wr.cell? ⟨w.heap.size, 6, none⟩ = some (.slice A k c)) := Lib.hid ⟨HU0.out.1.trans HU.out, HU.out.cellAt HU0.out.2⟩
        clear hsum
        go_wp2_with (fail)

        have c6 : wr.cell? ⟨w.heap.size, 6, none⟩ = some (.slice A k c) := HU1.out.2
        go_region_held3 (fun w' => w'.cell? ⟨w.heap.size, 6, none⟩ = some (.slice A k c)) (first | exact c6 | go_keep) ((first
          | (go_at_call 42; refine (within_any _ _ _ _).mono ?_; rintro e wa ⟨rfl, rfl⟩)
          | (go_at_call 41; refine (unless_any _ _ _).mono ?_; rintro e wa ⟨rfl, rfl⟩)
          | (go_at_call 80; have hc := applyT_any wr.drew (.slice A k c) d.tiers (HLP.out.upd (Kp.drewR HU1.out.1)) (by have := HN.out; omega); rw [← HNM.out] at hc; refine hc.mono ?_; clear hc; rintro e w2 ⟨v1, rfl, hl, hb0⟩; have hb : Kp wr w2 := (Kp.trans (Kp.drewR (Upd.refl _ wr)) hb0); clear hb0; obtain ⟨A1, c1, e1, hl1⟩ := hl; rw [HL0.out] at e1; subst e1; have HL : Hid (Nums w2 (.slice A1 k c1) ms) := Lib.hid ⟨A1, c1, by rw [HL0.out], hl1⟩; have HB2 : Hid (Kp w w2) := Lib.hid (HU1.out.1.trans hb); have c6 := hb.cellAt c6; clear hb hl1)
          | (go_at_call 57; have hc := twiceI_any w2 (.slice A1 k c1) ms HL.out (by rw [HL0.out]; omega) HPN.out; rw [← HBR.out] at hc; refine hc.mono ?_; clear hc; rintro e w4 ⟨rfl, hb⟩; have HB4 : Hid (Kp w w4) := Lib.hid (HB2.out.trans hb); have c6 := hb.cellAt c6; clear hb)
          | (go_at_call 40; refine (first_any _ _ [unl (inR k 1 12) 2, unl true 15, unl (!br) 33, unl (decide (s ≤ 100)) 15] (nums4 w4 34 _ _ _ _) four_len).mono ?_; rintro e w5 ⟨rfl, hb⟩; have HB5 : Hid (Kp w w5) := Lib.hid (HB4.out.trans (Kp.trans ((Upd.refl _ w4).alloc _) hb)); have c6 := hb.cellAt (World.alloc_cell_old c6); clear hb)))
        all_goals go_wp2
        all_goals go_ret
        all_goals exact ⟨by rw [HS.out]; rfl, HB5.out⟩

end Go.Proofs.Ytaejnhgnacgheaa
