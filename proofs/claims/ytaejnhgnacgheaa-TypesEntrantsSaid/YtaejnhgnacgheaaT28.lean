/- TypesCheck: the walk (printed by gen-t28.py). -/
import Derived.Test.YtaejnhgnacgheaaT27
import Derived.Test.YtaejnhgnacgheaaLeaf
namespace Go.Proofs.Ytaejnhgnacgheaa
set_option linter.unusedVariables false
set_option linter.unusedSimpArgs false
open Go.RowKit

/-- a value that is rules, whose lists can be read -/
def DrawV (w : World) (N : Nat) (v : Value) : Prop := ∃ (d : DrawL) (A1 : Option Addr) (n1 c1 : Nat) (A2 : Option Addr) (n2 c2 : Nat) (A3 : Option Addr) (n3 c3 : Nat) (A4 : Option Addr) (n4 c4 : Nat), v = dval d (.slice A1 n1 c1) (.slice A2 n2 c2) (.slice A3 n3 c3) (.slice A4 n4 c4) ∧ DrawSl w d (.slice A1 n1 c1) (.slice A2 n2 c2) (.slice A3 n3 c3) (.slice A4 n4 c4) ∧ SizesOk N d
def BuiltV (w : World) (pre : List Value) (v : Value) : Prop := ∃ (d : DrawL) (A1 : Option Addr) (n1 c1 : Nat) (A2 : Option Addr) (n2 c2 : Nat) (A3 : Option Addr) (n3 c3 : Nat) (A4 : Option Addr) (n4 c4 : Nat), v = .agg (pre ++ dcells d (.slice A1 n1 c1) (.slice A2 n2 c2) (.slice A3 n3 c3) (.slice A4 n4 c4)).toArray ∧ DrawSl w d (.slice A1 n1 c1) (.slice A2 n2 c2) (.slice A3 n3 c3) (.slice A4 n4 c4)
theorem DrawV.kp {w w' : World} {N : Nat} {v : Value} (h : DrawV w N v) (hk : Kp w w') : DrawV w' N v := by
  obtain ⟨d, A1, n1, c1, A2, n2, c2, A3, n3, c3, A4, n4, c4, h1, h2, h3⟩ := h
  exact ⟨d, A1, n1, c1, A2, n2, c2, A3, n3, c3, A4, n4, c4, h1, h2.kp hk, h3⟩
theorem BuiltV.kp {w w' : World} {pre : List Value} {v : Value} (h : BuiltV w pre v) (hk : Kp w w') : BuiltV w' pre v := by
  obtain ⟨d, A1, n1, c1, A2, n2, c2, A3, n3, c3, A4, n4, c4, h1, h2⟩ := h
  exact ⟨d, A1, n1, c1, A2, n2, c2, A3, n3, c3, A4, n4, c4, h1, h2.kp hk⟩
theorem drawv_of {w w' : World} {N : Nat} {e : Ending} (h : BentP N w e w') : ∃ v, e = .returned v ∧ DrawV w' N v ∧ Kp w w' := by
  obtain ⟨d, vt, vp, vq, vb, rfl, hi, hs, hk⟩ := h
  have hi' := hi
  obtain ⟨A1, c1, rfl, _⟩ := hi.t.form
  obtain ⟨A2, c2, rfl, _⟩ := hi.p.form
  obtain ⟨A3, c3, rfl, _⟩ := hi.q.form
  obtain ⟨A4, c4, rfl, _⟩ := hi.b.form
  exact ⟨_, rfl, ⟨d, A1, _, c1, A2, _, c2, A3, _, c3, A4, _, c4, rfl, hi', hi.ok, hs⟩, hk⟩
/-- the rules given by their parts -/
theorem firstL_head {x : Int} {xs : List Int} (h : firstL (x :: xs) = 0) : x = 0 := by
  unfold firstL at h
  split at h
  · assumption
  · exact absurd h ‹_›
theorem unl_ok {b : Bool} {x : Int} (h : unl b x = 0) (hx : x ≠ 0) : b = true := by
  cases b
  · exact absurd h hx
  · rfl
theorem good_lens {d : DrawL} (h : Good d) : d.tiers.length ≤ 12 ∧ d.places.length ≤ 12 ∧ d.quotas.length ≤ 12 ∧ d.barred.length ≤ 12 := by
  have hb := h.bar.1
  rcases h.kind with hk | hk | hk
  · obtain ⟨_, ht, hp, _, _, hq⟩ := h.k1 hk
    have h1 := unl_ok (firstL_head ht) (by decide)
    simp only [inR, Bool.and_eq_true, decide_eq_true_eq] at h1
    rw [hp, hq]
    exact ⟨by omega, by simp, by simp, by omega⟩
  · obtain ⟨hp, _, _, _, ht, _, _, hq⟩ := h.k2 hk
    have h1 := unl_ok (firstL_head hp) (by decide)
    simp only [inR, Bool.and_eq_true, decide_eq_true_eq] at h1
    rw [ht, hq]
    exact ⟨by simp, by omega, by simp, by omega⟩
  · obtain ⟨_, hq, _, _, ht, _, hp, _⟩ := h.k3 hk
    have h1 := unl_ok (firstL_head hq) (by decide)
    simp only [decide_eq_true_eq] at h1
    rw [ht, hp]
    exact ⟨by simp, by simp, by omega, by omega⟩
def zero39 : List Value := [.string ⟨#[]⟩, .int .i64 0, .int .i64 0, .int .i64 0, .int .i64 0, .int .i64 0, .slice none 0 0, .bool false, .slice none 0 0, .int .i64 0, .int .i64 0, .slice none 0 0, .slice none 0 0, .string ⟨#[]⟩, .int .i64 0, .int .i64 0, .int .i64 0, .int .i64 0, .int .i64 0, .slice none 0 0, .bool false, .slice none 0 0, .int .i64 0, .int .i64 0, .slice none 0 0, .slice none 0 0, .string ⟨#[]⟩, .int .i64 0, .int .i64 0, .int .i64 0, .int .i64 0, .int .i64 0, .slice none 0 0, .bool false, .slice none 0 0, .int .i64 0, .int .i64 0, .slice none 0 0, .slice none 0 0]
/-- the three rules lie in one block -/
structure Three (w : World) (g : Nat) (cs1 cs2 cs3 : List Value) : Prop where
  row : Row w g 33 (cs1 ++ (cs2 ++ cs3))
theorem range3 {w : World} {g : Nat} {e : TypeId} {a b c : List Value} (h : Row w g e (a ++ b ++ c)) : w.rangeAt g 0 a ∧ w.rangeAt g a.length b ∧ w.rangeAt g (a.length + b.length) c := by
  refine ⟨?_, ?_, ?_⟩
  · rw [List.append_assoc] at h; exact h.rangeFst
  · intro j v hj
    have hjl := (List.getElem?_eq_some_iff.1 hj).1
    rw [h.cell, List.append_assoc, List.getElem?_append_right (by omega), List.getElem?_append_left (by omega)]
    simpa using hj
  · have := h.rangeOff
    rw [List.length_append] at this
    exact this
set_option maxHeartbeats 8000000 in
set_option maxRecDepth 20000 in
theorem check_true (w : World) (A : Option Addr) (nl c : Nat) (L : List Int) (hl : Nums w (.slice A nl c) L) (hL : L.length ≤ maxLen) (hok : ∀ x, x ∈ L → in64 x) (q r : Int × Int × Int) (hq : in64 q.1 ∧ in64 q.2.1 ∧ in64 q.2.2) (hr : in64 r.1 ∧ in64 r.2.1 ∧ in64 r.2.2) :
    Calls Try.prog 3 #[.slice A nl c, .agg (int3E q ++ int3E r).toArray] w (SaneP w) := by
  have HL := Lib.hid hl
  have HLL := Lib.hid hL
  have HOK := Lib.hid hok
  have HQ := Lib.hid hq
  have HRR := Lib.hid hr
  clear hl hL hok hq hr
  show Calls Try.prog 3 #[.slice A nl c, .agg #[.int .i64 q.1, .int .i64 q.2.1, .int .i64 q.2.2, .int .i64 r.1, .int .i64 r.2.1, .int .i64 r.2.2]] w (SaneP w)
  go_enter Try.func3, Try.ntmps3
  go_upto_region 3 with (first
    | (go_at_call 10; refine (sanity_any _).mono ?_; rintro en w1 ⟨rfl, hb⟩; have U1 : Hid (Kp w w1) := Lib.hid (Kp.trans ((Upd.refl _ w).alloc _) hb); have R1 : Hid (Row w1 w.heap.size 24 [.int .i64 q.1, .int .i64 q.2.1, .int .i64 q.2.2, .int .i64 r.1, .int .i64 r.2.1, .int .i64 r.2.2]) := Lib.hid ((Row.new w _ _).upd hb id); clear hb)
    | (go_at_call 11; refine (draw_any w1 A nl c L (HL.out.upd U1.out) HLL.out HOK.out).mono ?_; rintro en w2 ⟨d, vt, vp, vq, vb, rfl, hdi, hgd, hb⟩; obtain ⟨A1, n1, c1, A2, n2, c2, A3, n3, c3, A4, n4, c4, rfl, rfl, rfl, rfl, hn4, hc4, hl4⟩ := hdi.forms; clear hn4 hl4 hc4; have U2 : Hid (Kp w w2) := Lib.hid (U1.out.trans hb); have R2 := Lib.hid (R1.out.upd hb id); have DI := Lib.hid hdi; have GD := Lib.hid hgd; clear hb hdi hgd))
  obtain ⟨D, hD⟩ : ∃ D, D = w2.heap.size := ⟨_, rfl⟩
  obtain ⟨w3, hw3⟩ : ∃ W, W = w2.alloc (.cells (dcells d (.slice A1 n1 c1) (.slice A2 n2 c2) (.slice A3 n3 c3) (.slice A4 n4 c4)).toArray 30) := ⟨_, rfl⟩
  change Code.wp _ _ _ _ (w2.alloc (.cells (dcells d (.slice A1 n1 c1) (.slice A2 n2 c2) (.slice A3 n3 c3) (.slice A4 n4 c4)).toArray 30))
  have U3 : Hid (Kp w2 w3 ∧ Kp w w3) := Lib.hid (by rw [hw3]; exact ⟨(Upd.refl _ w2).alloc _, U2.out.trans ((Upd.refl _ w2).alloc _)⟩)
  have R3 := Lib.hid (R2.out.upd U3.out.1 id)
  have D3 : Hid (Row w3 D 30 (dcells d (.slice A1 n1 c1) (.slice A2 n2 c2) (.slice A3 n3 c3) (.slice A4 n4 c4))) := Lib.hid (by rw [hw3, hD]; exact Row.new _ _ _)
  have DI3 := Lib.hid (DI.out.kp U3.out.1)
  have SZ : Hid (SizesOk 12 d) := Lib.hid ⟨DI.out.ok, good_lens GD.out⟩
  rw [← hw3, ← hD]
  clear hw3 hD
  have hagg := Try.underlying30
  have hag3 := Try.underlying23
  go_upto_region 4 with (first
    | (show wpList _ _ _ (⟨some 17, _, _, _, _, _⟩ :: _) _ _; refine wpList_load_mid rfl 30 (.tmp 6) rfl D 0 rfl _ _ D3.out.rangeAt hagg rfl (by kernel_rfl) ?_)
    | (show wpList _ _ _ (⟨some 19, _, _, _, _, _⟩ :: _) _ _; refine wpList_load_mid rfl 23 (.tmp 18) rfl w.heap.size 0 rfl [.int .i64 q.1, .int .i64 q.2.1, .int .i64 q.2.2] _ (Row.rangeFst (ys := [.int .i64 r.1, .int .i64 r.2.1, .int .i64 r.2.2]) R3.out) hag3 rfl (by kernel_rfl) ?_)
    | (go_at_call 12; refine (bent_any w3 d (.slice A1 n1 c1) (.slice A2 n2 c2) (.slice A3 n3 c3) (.slice A4 n4 c4) DI3.out 12 SZ.out (by decide) q.1 q.2.1 q.2.2 HQ.out.1 HQ.out.2.1 HQ.out.2.2).mono ?_; rintro en w4 hB; obtain ⟨v4, rfl, ⟨a, aA1, an1, ac1, aA2, an2, ac2, aA3, an3, ac3, aA4, an4, ac4, rfl, hai, has⟩, hb⟩ := drawv_of hB; have U4 : Hid (Kp w3 w4) := Lib.hid hb; have AI := Lib.hid hai; have AS := Lib.hid has; clear hB hb hai has))
  obtain ⟨E, hE⟩ : ∃ E, E = w4.heap.size := ⟨_, rfl⟩
  obtain ⟨csA, hcsA⟩ : ∃ cs : List Value, cs = dcells a (.slice aA1 an1 ac1) (.slice aA2 an2 ac2) (.slice aA3 an3 ac3) (.slice aA4 an4 ac4) := ⟨_, rfl⟩
  obtain ⟨w5, hw5⟩ : ∃ W, W = w4.alloc (.cells (dcells a (.slice aA1 an1 ac1) (.slice aA2 an2 ac2) (.slice aA3 an3 ac3) (.slice aA4 an4 ac4)).toArray 30) := ⟨_, rfl⟩
  change Code.wp _ _ _ _ (w4.alloc (.cells (dcells a (.slice aA1 an1 ac1) (.slice aA2 an2 ac2) (.slice aA3 an3 ac3) (.slice aA4 an4 ac4)).toArray 30))
  have U5 : Hid (Kp w4 w5 ∧ Kp w3 w5) := Lib.hid (by rw [hw5]; exact ⟨(Upd.refl _ w4).alloc _, U4.out.trans ((Upd.refl _ w4).alloc _)⟩)
  have R5 := Lib.hid (R3.out.upd U5.out.2 id)
  have D5 := Lib.hid (D3.out.upd U5.out.2 id)
  have E5 : Hid (Row w5 E 30 csA) := Lib.hid (by rw [hw5, hE, hcsA]; exact Row.new _ _ _)
  have AI5 := Lib.hid (AI.out.kp U5.out.1)
  have HBENT : Hid (∀ W, Kp w5 W → Calls Try.prog 12 #[dval a (.slice aA1 an1 ac1) (.slice aA2 an2 ac2) (.slice aA3 an3 ac3) (.slice aA4 an4 ac4), .agg #[.int .i64 r.1, .int .i64 r.2.1, .int .i64 r.2.2]] W fun e w'' => ∃ v, e = .returned v ∧ DrawV w'' 132 v ∧ Kp W w'') := Lib.hid (fun W hW => (bent_any W a (.slice aA1 an1 ac1) (.slice aA2 an2 ac2) (.slice aA3 an3 ac3) (.slice aA4 an4 ac4) (AI5.out.in_.kp hW) 72 AS.out (by decide) r.1 r.2.1 r.2.2 HRR.out.1 HRR.out.2.1 HRR.out.2.2).mono (fun e w'' h => drawv_of h))
  rw [← hw5, ← hE]
  clear hw5 hE
  have HCA := Lib.hid hcsA
  clear hcsA
  go_wp2_with fail
  refine wp_region_last (dl := [21, 22, 23, 24, 25, 26, 27, 8]) (spec := (fun t v w' => match t with | 21 => v = .agg (dcells d (.slice A1 n1 c1) (.slice A2 n2 c2) (.slice A3 n3 c3) (.slice A4 n4 c4)).toArray | 22 => v = .agg csA.toArray | 23 => v = .agg csA.toArray | 24 => v = .pointer (some ⟨w.heap.size, 3, none⟩) | 25 => v = .agg #[.int .i64 r.1, .int .i64 r.2.1, .int .i64 r.2.2] | 26 => DrawV w' 132 v | 27 => BuiltV w' (dcells d (.slice A1 n1 c1) (.slice A2 n2 c2) (.slice A3 n3 c3) (.slice A4 n4 c4) ++ csA) v | 8 => ∃ g, v = .pointer (some ⟨g, 0, none⟩) ∧ w5.heap.size ≤ g ∧ Row w' g 33 zero39 | _ => True)) (by kernel_rfl) [[], [], [], [], [24], [23, 25], [21, 22, 26], [], [8, 27]] (by kernel_rfl) rfl (by kernel_rfl) ?_ ⟨?_, ?_, ?_, ?_, ?_, ?_, ?_, ?_, trivial⟩ ?_
  
  · intro t v w1' w2' h hk
    revert h
    split <;> intro h <;> first | exact h | exact h.kp hk | (obtain ⟨g, h1, h2, h3⟩ := h; exact ⟨g, h1, h2, h3.upd hk id⟩)
  · intro a' w' hs hk hd
    have i6 : a'.eval (.tmp 6) = .pointer (some ⟨D, 0, none⟩) := hs.keep 6 (by decide)
    rw [if_pos (by rfl)]
    exact leaves_value (run_leaf_load 30 (.tmp 6) rfl D 0 i6 (dcells d (.slice A1 n1 c1) (.slice A2 n2 c2) (.slice A3 n3 c3) (.slice A4 n4 c4)) _ (rangeAt_kp D5.out.rangeAt hk) hagg rfl (by kernel_rfl)) (Upd.refl _ _) (fun d h => by cases h; rfl)
  · intro a' w' hs hk hd
    have i7 : a'.eval (.tmp 7) = .pointer (some ⟨E, 0, none⟩) := hs.keep 7 (by decide)
    rw [if_pos (by rfl)]
    exact leaves_value (run_leaf_load 30 (.tmp 7) rfl E 0 i7 csA _ (rangeAt_kp E5.out.rangeAt hk) hagg rfl (by rw [HCA.out]; kernel_rfl)) (Upd.refl _ _) (fun d h => by cases h; rfl)
  · intro a' w' hs hk hd
    have i7 : a'.eval (.tmp 7) = .pointer (some ⟨E, 0, none⟩) := hs.keep 7 (by decide)
    rw [if_pos (by rfl)]
    exact leaves_value (run_leaf_load 30 (.tmp 7) rfl E 0 i7 csA _ (rangeAt_kp E5.out.rangeAt hk) hagg rfl (by rw [HCA.out]; kernel_rfl)) (Upd.refl _ _) (fun d h => by cases h; rfl)
  · intro a' w' hs hk hd
    have i3 : a'.eval (.tmp 3) = .pointer (some ⟨w.heap.size, 0, none⟩) := hs.keep 3 (by decide)
    rw [if_pos (by rfl)]
    rw [eval_get] at i3
    refine leaves_value (v := .pointer (some ⟨w.heap.size, 3, none⟩)) (w' := w') ?_ (Upd.refl _ _) (fun d h => by cases h; rfl)
    go_simp
  · intro a' w' hs hk hd
    have i24 : a'.eval (.tmp 24) = .pointer (some ⟨w.heap.size, 3, none⟩) := hd 24 (by simp)
    rw [if_pos (by rfl)]
    exact leaves_value (run_leaf_load 23 (.tmp 24) rfl w.heap.size 3 i24 [.int .i64 r.1, .int .i64 r.2.1, .int .i64 r.2.2] _ (rangeAt_kp (show w5.rangeAt w.heap.size 3 _ from Row.rangeOff (xs := [.int .i64 q.1, .int .i64 q.2.1, .int .i64 q.2.2]) (ys := [.int .i64 r.1, .int .i64 r.2.1, .int .i64 r.2.2]) R5.out) hk) hag3 rfl (by kernel_rfl)) (Upd.refl _ _) (fun d h => by cases h; rfl)
  · intro a' w' hs hk hd
    have i23 : a'.eval (.tmp 23) = .agg csA.toArray := hd 23 (by simp)
    have i25 : a'.eval (.tmp 25) = .agg #[.int .i64 r.1, .int .i64 r.2.1, .int .i64 r.2.2] := hd 25 (by simp)
    rw [if_pos (by rfl)]
    rw [eval_get] at i23 i25
    refine leaves_call (f := 12) (args := #[.agg csA.toArray, .agg #[.int .i64 r.1, .int .i64 r.2.1, .int .i64 r.2.2]]) ?_ ?_
    · go_simp
    · rw [HCA.out]
      exact (HBENT.out w' hk).mono (by rintro en w'' ⟨v, rfl, h2, h3⟩; exact ⟨_, rfl, h3, fun d h => by cases h; exact h2⟩)
  · intro a' w' hs hk hd
    have i21 : a'.eval (.tmp 21) = .agg (dcells d (.slice A1 n1 c1) (.slice A2 n2 c2) (.slice A3 n3 c3) (.slice A4 n4 c4)).toArray := hd 21 (by simp)
    have i22 : a'.eval (.tmp 22) = .agg csA.toArray := hd 22 (by simp)
    have i26 : DrawV w' 132 (a'.eval (.tmp 26)) := hd 26 (by simp)
    rw [if_pos (by rfl)]
    obtain ⟨b, bA1, bn1, bc1, bA2, bn2, bc2, bA3, bn3, bc3, bA4, bn4, bc4, e26, hbi, hbs⟩ := i26
    rw [HCA.out] at i22
    refine leaves_value (run_leaf_build 33 _ rfl (dcells d (.slice A1 n1 c1) (.slice A2 n2 c2) (.slice A3 n3 c3) (.slice A4 n4 c4) ++ dcells a (.slice aA1 an1 ac1) (.slice aA2 an2 ac2) (.slice aA3 an3 ac3) (.slice aA4 an4 ac4) ++ dcells b (.slice bA1 bn1 bc1) (.slice bA2 bn2 bc2) (.slice bA3 bn3 bc3) (.slice bA4 bn4 bc4)).toArray ?_) (Upd.refl _ _) (fun d h => by cases h; exact ⟨b, bA1, bn1, bc1, bA2, bn2, bc2, bA3, bn3, bc3, bA4, bn4, bc4, by rw [HCA.out], hbi⟩)
    simp only [List.map_toArray, List.map_cons, List.map_nil, i21, i22, e26]
    kernel_rfl
  · intro a' w' hs hk hd
    rw [if_pos (by rfl)]
    refine leaves_value (v := .pointer (some ⟨w'.heap.size, 0, none⟩)) (w' := w'.alloc (.cells zero39.toArray 33)) ?_ ((Upd.refl _ w').alloc _) (fun d h => by cases h; exact ⟨_, rfl, hk.size, Row.new w' _ _⟩)
    go_simp
    rfl
  · intro o a' w' ho hs hk hd
    have ho' : o = _ := (Option.some.inj ho).symm
    subst ho'
    have i8 : ∃ g, a'.eval (.tmp 8) = .pointer (some ⟨g, 0, none⟩) ∧ w5.heap.size ≤ g ∧ Row w' g 33 zero39 := hd 7 _ 8 (by decide) rfl rfl
    have i27 : BuiltV w' (dcells d (.slice A1 n1 c1) (.slice A2 n2 c2) (.slice A3 n3 c3) (.slice A4 n4 c4) ++ csA) (a'.eval (.tmp 27)) := hd 6 _ 27 (by decide) rfl rfl
    rw [if_pos (by rfl)]
    obtain ⟨g, e8, hg, hrow⟩ := i8
    obtain ⟨b, bA1, bn1, bc1, bA2, bn2, bc2, bA3, bn3, bc3, bA4, bn4, bc4, e27, hbi⟩ := i27
    rw [HCA.out] at e27
    refine wp_store_mid 33 (.tmp 8) (.tmp 27) rfl g 0 _ e8 e27 (hrow.there (by simp [zero39])) (by kernel_rfl) (by rw [List.all_toArray]; rfl) ?_
    have hS := hrow.setFull (cs := dcells d (.slice A1 n1 c1) (.slice A2 n2 c2) (.slice A3 n3 c3) (.slice A4 n4 c4) ++ dcells a (.slice aA1 an1 ac1) (.slice aA2 an2 ac2) (.slice aA3 an3 ac3) (.slice aA4 an4 ac4) ++ dcells b (.slice bA1 bn1 bc1) (.slice bA2 bn2 bc2) (.slice bA3 bn3 bc3) (.slice bA4 bn4 bc4)) rfl
    obtain ⟨w6, hw6⟩ : ∃ W, W = w'.setCells g 0 (dcells d (.slice A1 n1 c1) (.slice A2 n2 c2) (.slice A3 n3 c3) (.slice A4 n4 c4) ++ dcells a (.slice aA1 an1 ac1) (.slice aA2 an2 ac2) (.slice aA3 an3 ac3) (.slice aA4 an4 ac4) ++ dcells b (.slice bA1 bn1 bc1) (.slice bA2 bn2 bc2) (.slice bA3 bn3 bc3) (.slice bA4 bn4 bc4)) := ⟨_, rfl⟩
    have R6 : Hid (Row w6 g 33 (dcells d (.slice A1 n1 c1) (.slice A2 n2 c2) (.slice A3 n3 c3) (.slice A4 n4 c4) ++ dcells a (.slice aA1 an1 ac1) (.slice aA2 an2 ac2) (.slice aA3 an3 ac3) (.slice aA4 an4 ac4) ++ dcells b (.slice bA1 bn1 bc1) (.slice bA2 bn2 bc2) (.slice bA3 bn3 bc3) (.slice bA4 bn4 bc4))) := Lib.hid (by rw [hw6]; exact hS.1)
    have U6 : Hid (Kp w5 w6) := Lib.hid (by rw [hw6]; exact Upd.trans hk hS.2 (fun b hb e => by omega))
    have BI6 : Hid (DrawIn w6 b (.slice bA1 bn1 bc1) (.slice bA2 bn2 bc2) (.slice bA3 bn3 bc3) (.slice bA4 bn4 bc4)) := Lib.hid (hbi.off hrow (by decide) (by decide) (by decide) (by decide) (by rw [hw6]; exact hS.2)).in_
    have hlist : (dcells d (.slice A1 n1 c1) (.slice A2 n2 c2) (.slice A3 n3 c3) (.slice A4 n4 c4) ++ dcells a (.slice aA1 an1 ac1) (.slice aA2 an2 ac2) (.slice aA3 an3 ac3) (.slice aA4 an4 ac4) ++ dcells b (.slice bA1 bn1 bc1) (.slice bA2 bn2 bc2) (.slice bA3 bn3 bc3) (.slice bA4 bn4 bc4)).toArray.toList = dcells d (.slice A1 n1 c1) (.slice A2 n2 c2) (.slice A3 n3 c3) (.slice A4 n4 c4) ++ dcells a (.slice aA1 an1 ac1) (.slice aA2 an2 ac2) (.slice aA3 an3 ac3) (.slice aA4 an4 ac4) ++ dcells b (.slice bA1 bn1 bc1) (.slice bA2 bn2 bc2) (.slice bA3 bn3 bc3) (.slice bA4 bn4 bc4) := rfl
    rw [hlist, ← hw6]
    clear hw6 hS hlist
    show Exit.then _ _ Exit.normal a' w6
    obtain ⟨f, hf⟩ := hs.lit
    rw [hf]
    have hf8 : f 8 = .pointer (some ⟨g, 0, none⟩) := by rw [hf] at e8; exact e8
    clear hf e8 e27 hk hs hd hrow hbi
    simp only [pickS, Nat.reduceAdd, List.contains_cons, List.contains_nil, Nat.reduceBEq, Bool.or_false, Bool.false_or, Bool.or_true, Bool.true_or, Bool.false_eq_true, if_true, if_false, hf8]
    have RGS : Hid (w6.rangeAt g 0 (dcells d (.slice A1 n1 c1) (.slice A2 n2 c2) (.slice A3 n3 c3) (.slice A4 n4 c4)) ∧ w6.rangeAt g 13 (dcells a (.slice aA1 an1 ac1) (.slice aA2 an2 ac2) (.slice aA3 an3 ac3) (.slice aA4 an4 ac4)) ∧ w6.rangeAt g 26 (dcells b (.slice bA1 bn1 bc1) (.slice bA2 bn2 bc2) (.slice bA3 bn3 bc3) (.slice bA4 bn4 bc4))) := Lib.hid (range3 R6.out)
    have D6 := Lib.hid (D5.out.upd U6.out id)
    have UW6 : Hid (Kp w w6) := Lib.hid (U3.out.2.trans (U5.out.2.trans U6.out))
    have I1 : Hid (DrawIn w6 d (.slice A1 n1 c1) (.slice A2 n2 c2) (.slice A3 n3 c3) (.slice A4 n4 c4)) := Lib.hid (DI3.out.kp (U5.out.2.trans U6.out))
    have I2 : Hid (DrawIn w6 a (.slice aA1 an1 ac1) (.slice aA2 an2 ac2) (.slice aA3 an3 ac3) (.slice aA4 an4 ac4)) := Lib.hid (AI5.out.in_.kp U6.out)
    go_wp2_with (fail)
    go_loopw [9] (fun v wr => ∃ k : Nat, k ≤ 3 ∧ v = .int .i64 k ∧ Kp w6 wr) (fun v _ => 3 - (intOf v).toNat)
    case atStart => exact ⟨0, by omega, rfl, Upd.refl _ _⟩
    case round =>
      obtain ⟨k, hk, rfl, hu⟩ := hrel
      have HU := Lib.hid hu
      clear hu
      rcases (show k = 0 ∨ k = 1 ∨ k = 2 ∨ k = 3 by omega) with rfl | rfl | rfl | rfl
      · have HP : Hid (DrawIn wr d (.slice A1 n1 c1) (.slice A2 n2 c2) (.slice A3 n3 c3) (.slice A4 n4 c4)) := Lib.hid (I1.out.kp HU.out)
        have RGK := Lib.hid (rangeAt_kp RGS.out.1 HU.out)
        obtain ⟨r', hr'⟩ : ∃ r, r = runC d clausesL := ⟨_, rfl⟩
        have hck := check_run wr d (.slice A1 n1 c1) (.slice A2 n2 c2) (.slice A3 n3 c3) (.slice A4 n4 c4) HP.out
        rw [← hr'] at hck
        have HCK := Lib.hid hck
        have HR := Lib.hid hr'
        clear hck hr'
        obtain ⟨nm, er⟩ := r'
        go_wp2_with (first
          | (show wpList _ _ _ (⟨some 35, _, _, _, _, _⟩ :: _) _ _; refine wpList_load_mid rfl 30 (.tmp 34) rfl g 0 rfl _ _ RGK.out hagg rfl (by kernel_rfl) ?_)
          | (go_at_call 13; refine HCK.out.mono ?_; rintro en w7 ⟨rfl, hb⟩; have HB7 := Lib.hid hb; have RG7 := Lib.hid (rangeAt_kp RGK.out hb); clear hb)
          | (show wpList _ _ _ (⟨some 42, _, _, _, _, _⟩ :: _) _ _; refine wpList_load_mid rfl 30 (.tmp 41) rfl g 0 rfl _ _ RG7.out hagg rfl (by kernel_rfl) ?_)
          | (go_at_call 14; have hc := rcheck_any w7 d (.slice A1 n1 c1) (.slice A2 n2 c2) (.slice A3 n3 c3) (.slice A4 n4 c4) (HP.out.kp HB7.out); rw [checkR_eq, ← HR.out] at hc; refine hc.mono ?_; clear hc; rintro en w8 ⟨rfl, hb⟩; have HB8 : Hid (Kp wr w8) := Lib.hid (HB7.out.trans hb); clear hb))
        go_roundw
        case rel => exact ⟨0 + 1, by omega, by go_num, HU.out.trans HB8.out⟩
        case measure => simp [intOf]
      · have HP : Hid (DrawIn wr a (.slice aA1 an1 ac1) (.slice aA2 an2 ac2) (.slice aA3 an3 ac3) (.slice aA4 an4 ac4)) := Lib.hid (I2.out.kp HU.out)
        have RGK := Lib.hid (rangeAt_kp RGS.out.2.1 HU.out)
        obtain ⟨r', hr'⟩ : ∃ r, r = runC a clausesL := ⟨_, rfl⟩
        have hck := check_run wr a (.slice aA1 an1 ac1) (.slice aA2 an2 ac2) (.slice aA3 an3 ac3) (.slice aA4 an4 ac4) HP.out
        rw [← hr'] at hck
        have HCK := Lib.hid hck
        have HR := Lib.hid hr'
        clear hck hr'
        obtain ⟨nm, er⟩ := r'
        go_wp2_with (first
          | (show wpList _ _ _ (⟨some 35, _, _, _, _, _⟩ :: _) _ _; refine wpList_load_mid rfl 30 (.tmp 34) rfl g 13 rfl _ _ RGK.out hagg rfl (by kernel_rfl) ?_)
          | (go_at_call 13; refine HCK.out.mono ?_; rintro en w7 ⟨rfl, hb⟩; have HB7 := Lib.hid hb; have RG7 := Lib.hid (rangeAt_kp RGK.out hb); clear hb)
          | (show wpList _ _ _ (⟨some 42, _, _, _, _, _⟩ :: _) _ _; refine wpList_load_mid rfl 30 (.tmp 41) rfl g 13 rfl _ _ RG7.out hagg rfl (by kernel_rfl) ?_)
          | (go_at_call 14; have hc := rcheck_any w7 a (.slice aA1 an1 ac1) (.slice aA2 an2 ac2) (.slice aA3 an3 ac3) (.slice aA4 an4 ac4) (HP.out.kp HB7.out); rw [checkR_eq, ← HR.out] at hc; refine hc.mono ?_; clear hc; rintro en w8 ⟨rfl, hb⟩; have HB8 : Hid (Kp wr w8) := Lib.hid (HB7.out.trans hb); clear hb))
        go_roundw
        case rel => exact ⟨1 + 1, by omega, by go_num, HU.out.trans HB8.out⟩
        case measure => simp [intOf]
      · have HP : Hid (DrawIn wr b (.slice bA1 bn1 bc1) (.slice bA2 bn2 bc2) (.slice bA3 bn3 bc3) (.slice bA4 bn4 bc4)) := Lib.hid (BI6.out.kp HU.out)
        have RGK := Lib.hid (rangeAt_kp RGS.out.2.2 HU.out)
        obtain ⟨r', hr'⟩ : ∃ r, r = runC b clausesL := ⟨_, rfl⟩
        have hck := check_run wr b (.slice bA1 bn1 bc1) (.slice bA2 bn2 bc2) (.slice bA3 bn3 bc3) (.slice bA4 bn4 bc4) HP.out
        rw [← hr'] at hck
        have HCK := Lib.hid hck
        have HR := Lib.hid hr'
        clear hck hr'
        obtain ⟨nm, er⟩ := r'
        go_wp2_with (first
          | (show wpList _ _ _ (⟨some 35, _, _, _, _, _⟩ :: _) _ _; refine wpList_load_mid rfl 30 (.tmp 34) rfl g 26 rfl _ _ RGK.out hagg rfl (by kernel_rfl) ?_)
          | (go_at_call 13; refine HCK.out.mono ?_; rintro en w7 ⟨rfl, hb⟩; have HB7 := Lib.hid hb; have RG7 := Lib.hid (rangeAt_kp RGK.out hb); clear hb)
          | (show wpList _ _ _ (⟨some 42, _, _, _, _, _⟩ :: _) _ _; refine wpList_load_mid rfl 30 (.tmp 41) rfl g 26 rfl _ _ RG7.out hagg rfl (by kernel_rfl) ?_)
          | (go_at_call 14; have hc := rcheck_any w7 b (.slice bA1 bn1 bc1) (.slice bA2 bn2 bc2) (.slice bA3 bn3 bc3) (.slice bA4 bn4 bc4) (HP.out.kp HB7.out); rw [checkR_eq, ← HR.out] at hc; refine hc.mono ?_; clear hc; rintro en w8 ⟨rfl, hb⟩; have HB8 : Hid (Kp wr w8) := Lib.hid (HB7.out.trans hb); clear hb))
        go_roundw
        case rel => exact ⟨2 + 1, by omega, by go_num, HU.out.trans HB8.out⟩
        case measure => simp [intOf]
      · have hC1 : Hid (Calls Try.prog 15 #[dval d (.slice A1 n1 c1) (.slice A2 n2 c2) (.slice A3 n3 c3) (.slice A4 n4 c4), .string ⟨#[]⟩, .int .i64 0] wr (Gives wr (.bool true))) := Lib.hid (by
          have h := is_any wr d _ _ _ _ (I1.out.kp HU.out) [] 0
          rw [GD.out.run] at h
          simpa using h)
        go_wp2_with (first
          | (show wpList _ _ _ (⟨some 56, _, _, _, _, _⟩ :: _) _ _; refine wpList_load_gd rfl 30 (.tmp 6) rfl D 0 rfl (dcells d (.slice A1 n1 c1) (.slice A2 n2 c2) (.slice A3 n3 c3) (.slice A4 n4 c4)) _ (D6.out.upd HU.out id).rangeAt hagg rfl (by kernel_rfl) ?_)
          | (go_at_call 15; refine hC1.out.mono ?_; rintro en w9 ⟨rfl, hb⟩; have HB9 := Lib.hid hb; clear hb))
        go_ret
        exact ⟨rfl, UW6.out.trans (HU.out.trans HB9.out)⟩
end Go.Proofs.Ytaejnhgnacgheaa
