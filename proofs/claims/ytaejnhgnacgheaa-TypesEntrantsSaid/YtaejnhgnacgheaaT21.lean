/- the maker of rules: Draw. -/
import Derived.Test.YtaejnhgnacgheaaT24
import Derived.Deep.CutRange
namespace Go.Proofs.Ytaejnhgnacgheaa
set_option linter.unusedVariables false
set_option linter.unusedSimpArgs false
open Go.RowKit

/-- what the numbers' reader leaves, where nothing else is known but two rows -/
structure PreAt (w W : World) (R M : Nat) (vl : Value) (k : Nat) : Prop where
  kp : Kp w W
  num : Row W M 72 [vl, .int .i64 k]
  res : Row W R 30 zero13
theorem PreAt.far {w W W' : World} {R M : Nat} {vl : Value} {k : Nat} (h : PreAt w W R M vl k) (hu : Kp W W') : PreAt w W' R M vl k := ⟨h.kp.trans hu, h.num.upd hu id, h.res.upd hu id⟩
theorem PreAt.next {w W W' : World} {R M : Nat} {vl : Value} {k k' : Nat} (h : PreAt w W R M vl k) (hM : w.heap.size ≤ M) (hr : Row W' M 72 [vl, .int .i64 k']) (hu : Upd (· = M) W W') : PreAt w W' R M vl k' :=
  ⟨Upd.trans h.kp hu (fun k hk e => by omega), hr, h.res.upd hu (fun e => (h.res.ne_ h.num (by decide)) e)⟩
theorem str_append (a b : List UInt8) : ByteArray.mk a.toArray ++ ByteArray.mk b.toArray = ⟨(a ++ b).toArray⟩ := by
  apply ByteArray.ext
  simp

def setB (d : DrawL) (B : List Int) : DrawL := { d with barred := B }
def setT (d : DrawL) (B : List (Int × Int)) : DrawL := { d with tiers := B }
def setP (d : DrawL) (B : List (List UInt8 × Int)) : DrawL := { d with places := B }
def setQ (d : DrawL) (B : List (List UInt8 × Int × Int)) : DrawL := { d with quotas := B }
section
variable {w W : World} {R M D : Nat} {vl : Value} {k : Nat} {d : DrawL} {vt vp vq vb : Value}
theorem addB2 {B : List Int} (h : MkAt w W R M D vl k (setB d B) vt vp vq vb) {W1 W2 : World} {v : Value} {x : Int} (h0 : Kp W W1) (ha : Appended W1 vb 3 1 ((setB d B).barred.length + 1) ((setB d B).barred.flatMap numE ++ [.int .i64 x]) v W2) :
    Row W2 D 30 (dcells (setB d B) vt vp vq vb) ∧ MkAt w (W2.setCell ⟨D, 12, none⟩ v) R M D vl k (setB d (B ++ [x])) vt vp vq v := h.addB h0 ha
theorem addT2 {B : List (Int × Int)} (h : MkAt w W R M D vl k (setT d B) vt vp vq vb) {W1 W2 : World} {v : Value} {x : Int × Int} (h0 : Kp W W1) (ha : Appended W1 vt 63 2 ((setT d B).tiers.length + 1) ((setT d B).tiers.flatMap tierE ++ tierE x) v W2) :
    Row W2 D 30 (dcells (setT d B) vt vp vq vb) ∧ MkAt w (W2.setCell ⟨D, 6, none⟩ v) R M D vl k (setT d (B ++ [x])) v vp vq vb := h.addT h0 ha
theorem addP2 {B : List (List UInt8 × Int)} (h : MkAt w W R M D vl k (setP d B) vt vp vq vb) {W1 W2 : World} {v : Value} {x : List UInt8 × Int} (h0 : Kp W W1) (ha : Appended W1 vp 65 2 ((setP d B).places.length + 1) ((setP d B).places.flatMap placeE ++ placeE x) v W2) :
    Row W2 D 30 (dcells (setP d B) vt vp vq vb) ∧ MkAt w (W2.setCell ⟨D, 8, none⟩ v) R M D vl k (setP d (B ++ [x])) vt v vq vb := h.addP h0 ha
theorem addQ2 {B : List (List UInt8 × Int × Int)} (h : MkAt w W R M D vl k (setQ d B) vt vp vq vb) {W1 W2 : World} {v : Value} {x : List UInt8 × Int × Int} (h0 : Kp W W1) (ha : Appended W1 vq 67 3 ((setQ d B).quotas.length + 1) ((setQ d B).quotas.flatMap quotaE ++ quotaE x) v W2) :
    Row W2 D 30 (dcells (setQ d B) vt vp vq vb) ∧ MkAt w (W2.setCell ⟨D, 11, none⟩ v) R M D vl k (setQ d (B ++ [x])) vt vp v vb := h.addQ h0 ha
end
theorem grow2 {B : List Int} {i : Nat} {x : Int} (h : ∀ j, ∀ hj : j < B.length, 5 * (j : Int) ≤ B[j] ∧ B[j] < 5 * (j : Int) + 4) (hx : B.length = i ∧ 0 ≤ x ∧ x < 4 ∧ True) : ∀ j, ∀ hj : j < (B ++ [5 * (i : Int) + x]).length, 5 * (j : Int) ≤ (B ++ [5 * (i : Int) + x])[j] ∧ (B ++ [5 * (i : Int) + x])[j] < 5 * (j : Int) + 4 := by
  intro j hj
  by_cases hl : j < B.length
  · rw [List.getElem_append_left hl]; exact h j hl
  · have e : j = i := by simp at hj; omega
    subst e
    rw [List.getElem_append_right (by omega)]
    simp only [List.getElem_singleton]
    omega


set_option maxHeartbeats 8000000 in
set_option maxRecDepth 20000 in
theorem draw_any (w : World) (A : Option Addr) (nl c : Nat) (L : List Int) (hl : Nums w (.slice A nl c) L) (hL : L.length ≤ maxLen) (hok : ∀ x, x ∈ L → in64 x) :
    Calls Try.prog 11 #[.slice A nl c] w (DrawP w) := by
  have NX : Hid (∀ (W : World) (R M k : Nat) (n : Int), PreAt w W R M (.slice A nl c) k → w.heap.size ≤ M → k ≤ 1000 → 0 < n → n ≤ 1000000 → Calls Try.prog 28 #[.pointer (some ⟨M, 0, none⟩), .int .i64 n] W (NextPost M (.slice A nl c) k n W)) :=
    Lib.hid (fun W R M k n h hM hk h0 h1 => next_any hl hL hok h.kp hM h.num hk n h0 h1)
  clear hl hL hok
  go_enter Try.func11, Try.ntmps11
  go_upto_region 2 with fail
  obtain ⟨w0, hw0⟩ : ∃ W, W = (w.alloc (.cells zero13.toArray 30)).alloc (.cells #[.slice A nl c, .int .i64 0] 72) := ⟨_, rfl⟩
  have P0 : Hid (PreAt w w0 w.heap.size (w.heap.size + 1) (.slice A nl c) 0) := Lib.hid (by rw [hw0]; exact ⟨((Upd.refl _ w).alloc _).alloc _, Row.new_at _ _ _ _ (by simp), (Row.new w _ _).upd ((Upd.refl (fun _ => False) _).alloc _) id⟩)
  change Code.wp _ _ _ _ ((w.alloc (.cells zero13.toArray 30)).alloc (.cells #[.slice A nl c, .int .i64 0] 72))
  rw [← hw0]
  clear hw0
  go_upto_region 3 with (first
    | (go_at_call 28; show Calls _ _ _ w0 _; refine (NX.out w0 _ _ _ 6 P0.out (by omega) (by omega) (by decide) (by decide)).mono ?_; rintro en w1 ⟨r1, k1, rfl, h10, h11, hk, hr, hu⟩; have P1 := Lib.hid (P0.out.next (by omega) hr hu); have K1 : Hid (k1 ≤ 1 ∧ 0 ≤ r1 ∧ r1 < 6) := Lib.hid ⟨by omega, h10, h11⟩; clear h10 h11 hk hr hu)
    | (go_at_call 27; show Calls _ _ _ w1 _; refine (word6_any w1 r1 (by have := K1.out; unfold in64; omega)).mono ?_; rintro en w2 ⟨rfl, hb⟩; have P2 := Lib.hid (P1.out.far hb); clear hb)
    | (go_at_call 28; show Calls _ _ _ w2 _; refine (NX.out w2 _ _ _ 3 P2.out (by omega) (by have := K1.out; omega) (by decide) (by decide)).mono ?_; rintro en w3 ⟨r3, k3, rfl, h10, h11, hk, hr, hu⟩; have P3 := Lib.hid (P2.out.next (by omega) hr hu); have K3 : Hid (k3 ≤ 2 ∧ 0 ≤ r3 ∧ r3 < 3) := Lib.hid ⟨by have := K1.out; omega, h10, h11⟩; have q3 : IntKind.i64.wrap (1 + r3) = 1 + r3 := (by rw [IntKind.wrap_i64]; omega); clear h10 h11 hk hr hu)
    | (go_at_call 28; show Calls _ _ _ w3 _; refine (NX.out w3 _ _ _ 9 P3.out (by omega) (by have := K3.out; omega) (by decide) (by decide)).mono ?_; rintro en w4 ⟨r4, k4, rfl, h10, h11, hk, hr, hu⟩; have P4 := Lib.hid (P3.out.next (by omega) hr hu); have K4 : Hid (k4 ≤ 3 ∧ 0 ≤ r4 ∧ r4 < 9) := Lib.hid ⟨by have := K3.out; omega, h10, h11⟩; have q4 : IntKind.i64.wrap (1 + r4) = 1 + r4 := (by rw [IntKind.wrap_i64]; omega); clear h10 h11 hk hr hu)
    | (go_at_call 28; show Calls _ _ _ w4 _; refine (NX.out w4 _ _ _ 9 P4.out (by omega) (by have := K4.out; omega) (by decide) (by decide)).mono ?_; rintro en w5 ⟨r5, k5, rfl, h10, h11, hk, hr, hu⟩; have P5 := Lib.hid (P4.out.next (by omega) hr hu); have K5 : Hid (k5 ≤ 4 ∧ 0 ≤ r5 ∧ r5 < 9) := Lib.hid ⟨by have := K4.out; omega, h10, h11⟩; clear h10 h11 hk hr hu))
  simp only [show (ByteArray.mk #[120] ++ ByteArray.mk (wordL r1).toArray) = ⟨(120 :: wordL r1).toArray⟩ from str_append [120] (wordL r1)]
  obtain ⟨d0, hd0⟩ : ∃ d : DrawL, d = { name := 120 :: wordL r1, kind := 1 + r3, round := 1 + r4, price := r5, pool := 0, pick := 0, tiers := [], roll := false, places := [], cls := 0, size := 0, quotas := [], barred := [] } := ⟨_, rfl⟩
  obtain ⟨w6, hw6⟩ : ∃ W, W = w5.alloc (.cells (dcells d0 (.slice none 0 0) (.slice none 0 0) (.slice none 0 0) (.slice none 0 0)).toArray 30) := ⟨_, rfl⟩
  obtain ⟨D, hD⟩ : ∃ D, D = w5.heap.size := ⟨_, rfl⟩
  have hM6 : MkAt w w6 w.heap.size (w.heap.size + 1) D (.slice A nl c) k5 d0 (.slice none 0 0) (.slice none 0 0) (.slice none 0 0) (.slice none 0 0) := by
    have hk : Kp w5 w6 := by rw [hw6]; exact (Upd.refl _ _).alloc _
    have hz := P5.out.res.lt
    have hz5 := P5.out.kp.size
    refine ⟨P5.out.kp.trans hk, P5.out.num.upd hk id, by rw [hw6, hD]; exact Row.new _ _ _, P5.out.res.upd hk id, by omega, Nat.le_refl _, by omega, by omega, ?_, ?_, ?_, ?_, by simp [Value.ownBlock], by simp [Value.ownBlock], by simp [Value.ownBlock], by simp [Value.ownBlock]⟩ <;> (rw [hd0]; exact Sl.nil_ _ _ _)
  change Code.wp _ _ _ _ (w5.alloc (.cells (dcells { name := 120 :: wordL r1, kind := 1 + r3, round := 1 + r4, price := r5, pool := 0, pick := 0, tiers := [], roll := false, places := [], cls := 0, size := 0, quotas := [], barred := [] } (.slice none 0 0) (.slice none 0 0) (.slice none 0 0) (.slice none 0 0)).toArray 30))
  rw [← hd0, ← hw6, ← hD]
  have M6 := Lib.hid hM6
  have D0 := Lib.hid hd0
  clear hM6 hd0 hw6 hD
  have NM : Hid (∀ (W : World) (k : Nat) (n : Int) (d : DrawL) (vt vp vq vb : Value), MkAt w W w.heap.size (w.heap.size + 1) D (.slice A nl c) k d vt vp vq vb → k ≤ 1000 → 0 < n → n ≤ 1000000 → Calls Try.prog 28 #[.pointer (some ⟨w.heap.size + 1, 0, none⟩), .int .i64 n] W (NextPost (w.heap.size + 1) (.slice A nl c) k n W)) :=
    Lib.hid (fun W k n d vt vp vq vb h hk h0 h1 => NX.out W w.heap.size _ k n ⟨h.kp, h.num, h.res⟩ (by omega) hk h0 h1)
  go_upto_region 5 with (go_at_call 28; show Calls _ _ _ w6 _; refine (NM.out w6 _ 3 _ _ _ _ _ M6.out (by have := K5.out; omega) (by decide) (by decide)).mono ?_; rintro en w7 ⟨r7, k7, rfl, h10, h11, hk, hr, hu⟩; have M7 := Lib.hid (M6.out.next hr hu); have K7 : Hid (k7 ≤ 5 ∧ 0 ≤ r7 ∧ r7 < 3) := Lib.hid ⟨by have := K5.out; omega, h10, h11⟩; clear h10 h11 hk hr hu)
  obtain ⟨u6, hu6⟩ : ∃ n : Nat, r7 = n := ⟨r7.toNat, by have := K7.out; omega⟩
  subst hu6
  go_wp2_with (fail)
  go_loopw [6] (fun v wr => ∃ (i k : Nat) (B : List Int) (vb : Value), v = .int .i64 i ∧ i ≤ u6 ∧ MkAt w wr w.heap.size (w.heap.size + 1) D (.slice A nl c) k (setB d0 B) (.slice none 0 0) (.slice none 0 0) (.slice none 0 0) vb ∧ B.length = i ∧ (∀ j, ∀ hj : j < B.length, 5 * (j : Int) ≤ B[j] ∧ B[j] < 5 * (j : Int) + 4) ∧ k ≤ 5 + i) (fun v _ => u6 - (intOf v).toNat)
  case atStart => exact ⟨0, k7, [], .slice none 0 0, rfl, Nat.zero_le _, by have h := M7.out; rw [show setB d0 [] = d0 by rw [D0.out]; rfl]; exact h, rfl, by simp, by have := K7.out; omega⟩
  case round =>
    obtain ⟨i, k, B, vb, rfl, hi, hm, hB, hg, hk⟩ := hrel
    have MR := Lib.hid hm
    have HB := Lib.hid hB
    have HG := Lib.hid hg
    have HKB := Lib.hid hk
    have HU6 : Hid (u6 ≤ 2) := Lib.hid (by have := K7.out; omega)
    clear hm hB hg hk
    by_cases hlt : i < u6
    · have hi2 : i ≤ 1 := by have := HU6.out; omega
      have hi0 : (0 : Int) ≤ i := by omega
      have hi1 : (i : Int) < u6 := by omega
      have hi3 : (i : Int) ≤ 1 := by omega
      have HI := Lib.hid hi2
      obtain ⟨A1, c1, e1, _⟩ := MR.out.b.form
      have e2 : (setB d0 B).barred.length = i := HB.out
      rw [e2] at e1
      subst e1
      clear e2
      have d12 : wr.cell? ⟨D, 12, none⟩ = some (.slice A1 i c1) := MR.out.row.cell 12
      have MRD : Hid (MkAt w wr.drew w.heap.size (w.heap.size + 1) D (.slice A nl c) k (setB d0 B) (.slice none 0 0) (.slice none 0 0) (.slice none 0 0) (.slice A1 i c1)) := Lib.hid (MR.out.far ((Upd.refl _ wr).drew))
      have NXR := Lib.hid (NM.out wr.drew k 4 _ _ _ _ _ MRD.out (by have := HKB.out; have := HI.out; omega) (by decide) (by decide))
      go_wp2_with (fail)
      go_region_law ((first
        | (refine step_of rfl (wp_append_sl (.tmp 38) (.tmp 44) _ rfl T_ints (v := .slice A1 i c1) rfl (M8.out.far ((Upd.refl _ w8).alloc _)).b (m := 1) (news := [.int .i64 (IntKind.i64.wrap (IntKind.i64.wrap (5 * (i : Int)) + r8))]) rfl (Rd.of_new (cs := #[.int .i64 (IntKind.i64.wrap (IntKind.i64.wrap (5 * (i : Int)) + r8))]) (Row.new_at _ _ _ _ rfl) rfl) (by intro u hu; simp at hu; subst hu; rfl) HNM.out HBY.out ?_); intro vb' w9 hA; obtain ⟨A2, c2, rfl, _⟩ := hA.sl.form; have HH := addB2 M8.out ((Upd.refl _ w8).alloc _) hA; have M9 := Lib.hid HH.2; clear d12; have d12 := HH.1.cell 12; have f12 := HH.1.frozen (j := 12) (by simp [dcells]); clear hA HH)
        | (go_simp; go_at_call 28; refine NXR.out.mono ?_; rintro en w8 ⟨r8, k8, rfl, h10, h11, hk, hr, hu⟩; have M8 := Lib.hid (MRD.out.next hr hu); have K8 : Hid (k8 ≤ k + 1 ∧ 0 ≤ r8 ∧ r8 < 4) := Lib.hid ⟨hk, h10, h11⟩; have d12 : w8.cell? ⟨D, 12, none⟩ = some (.slice A1 i c1) := M8.out.row.cell 12; have hD8 := M8.out.row.lt; have hD8n : D ≠ w8.heap.size := Nat.ne_of_lt hD8; have HNM : Hid ((setB d0 B).barred.length + 1 ≤ maxLen) := Lib.hid (by have := HB.out; have := HI.out; show B.length + 1 ≤ _; unfold maxLen; omega); have HBY : Hid (((setB d0 B).barred.length + 1) * 8 ≤ 140737488355328) := Lib.hid (by have := HB.out; have := HI.out; show (B.length + 1) * 8 ≤ _; omega); clear h10 h11 hk hr hu)))
      all_goals have XX : Hid (IntKind.i64.wrap (IntKind.i64.wrap (5 * (i : Int)) + r8) = 5 * (i : Int) + r8) := Lib.hid (by have := K8.out; rw [IntWalk.i64_in (5 * (i : Int)) (by omega)]; exact IntWalk.i64_in _ (by omega))
      all_goals (go_wp2_with (fail); go_roundw)
      all_goals (first
        | exact ⟨i + 1, k8, B ++ [5 * (i : Int) + r8], _, by go_num, by omega, by rw [← XX.out]; exact M9.out, by simp [HB.out], grow2 HG.out ⟨HB.out, K8.out.2.1, K8.out.2.2, trivial⟩, by have := HKB.out; have := K8.out; omega⟩
        | (simp [intOf]; omega))
    · obtain rfl : i = u6 := by omega
      obtain ⟨d1, hd1⟩ : ∃ d : DrawL, d = setB d0 B := ⟨_, rfl⟩
      rw [← hd1] at MR
      have H1 : Hid (d1 = { name := 120 :: wordL r1, kind := 1 + r3, round := 1 + r4, price := r5, pool := 0, pick := 0, tiers := [], roll := false, places := [], cls := 0, size := 0, quotas := [], barred := B }) := Lib.hid (by rw [hd1, D0.out]; rfl)
      have BB : Hid (B.length ≤ 2 ∧ ∀ b, b ∈ B → in64 b) := Lib.hid ⟨by have := HB.out; have := HU6.out; omega, fun b hb => by obtain ⟨j, hj, rfl⟩ := List.mem_iff_getElem.1 hb; have := HG.out j hj; have := HB.out; have := HU6.out; unfold in64; omega⟩
      clear hd1
      have e1 : wr.cell? ⟨D, 1, none⟩ = some (.int .i64 (1 + r3)) := by have h := MR.out.row.cell 1; rw [H1.out] at h; exact h
      have hr3 : r3 = 0 ∨ r3 = 1 ∨ r3 = 2 := by have := K3.out; omega
      clear q3 q4
      rcases hr3 with rfl | rfl | rfl
      · skip
        go_upto_region 10 with fail
        clear e1
        go_upto_region 11 with (go_at_call 28; show Calls _ _ _ wr _; refine (NM.out wr _ 6 _ _ _ _ _ MR.out (by have := HKB.out; have := HU6.out; omega) (by decide) (by decide)).mono ?_; rintro en w10 ⟨r10, k10, rfl, h10, h11, hk, hr, hu⟩; have M10 := Lib.hid (MR.out.next hr hu); have K10 : Hid (k10 ≤ 8 ∧ 0 ≤ r10 ∧ r10 < 6) := Lib.hid ⟨by have := HKB.out; have := HU6.out; omega, h10, h11⟩; have q10 : IntKind.i64.wrap (2 + r10) = 2 + r10 := (IntWalk.i64_in _ (by omega)); have f4 := M10.out.row.frozen (j := 4) (by simp [dcells]); have g4 := M10.out.row.cell 4; clear h10 h11 hk hr hu)
        obtain ⟨w11, hw11⟩ : ∃ W, W = w10.setCell ⟨D, 4, none⟩ (.int .i64 (2 + r10)) := ⟨_, rfl⟩
        rw [← hw11]
        obtain ⟨d11, hd11⟩ : ∃ d : DrawL, d = { d1 with pool := 2 + r10 } := ⟨_, rfl⟩
        have M11 : Hid (MkAt w w11 w.heap.size (w.heap.size + 1) D (.slice A nl c) k10 d11 (.slice none 0 0) (.slice none 0 0) (.slice none 0 0) vb) := Lib.hid (by rw [hw11, hd11]; exact M10.out.set 4 _ rfl rfl rfl rfl rfl)
        have H11 : Hid (d11 = { name := 120 :: wordL r1, kind := 1 + 0, round := 1 + r4, price := r5, pool := 2 + r10, pick := 0, tiers := [], roll := false, places := [], cls := 0, size := 0, quotas := [], barred := B }) := Lib.hid (hd11.trans (congrArg (fun d : DrawL => { d with pool := 2 + r10 }) H1.out))
        clear hw11 hd11
        clear f4 q10 g4
        have e4 : w11.cell? ⟨D, 4, none⟩ = some (.int .i64 (2 + r10)) := by have h := M11.out.row.cell 4; rw [H11.out] at h; exact h
        obtain ⟨m1, hm1⟩ : ∃ x : Int, (if 2 + r10 < 4 then 2 + r10 else 4) = x := ⟨_, rfl⟩
        have HM1 : Hid ((if 2 + r10 < 4 then 2 + r10 else 4) = m1 ∧ 2 ≤ m1 ∧ m1 ≤ 4 ∧ m1 ≤ 2 + r10) := Lib.hid ⟨hm1, by have := K10.out; split at hm1 <;> omega, by have := K10.out; split at hm1 <;> omega, by have := K10.out; split at hm1 <;> omega⟩
        clear hm1
        go_upto_region 12 with (first
          | (show wpList _ _ _ (⟨some 58, _, _, _, _, _⟩ :: _) _ _; refine wpList_min rfl _ _ _ rfl rfl rfl HM1.out.1 ?_)
          | (go_at_call 28; show Calls _ _ _ w11 _; refine (NM.out w11 _ m1 _ _ _ _ _ M11.out (by have := K10.out; have := HM1.out.2; omega) (by have := HM1.out.2; omega) (by have := HM1.out.2; omega)).mono ?_; rintro en w12 ⟨r12, k12, rfl, h10, h11, hk, hr, hu⟩; have M12 := Lib.hid (M11.out.next hr hu); have K12 : Hid (k12 ≤ 9 ∧ 0 ≤ r12 ∧ r12 < m1) := Lib.hid ⟨by have := K10.out; have := HM1.out.2; omega, h10, h11⟩; have q12 : IntKind.i64.wrap (1 + r12) = 1 + r12 := (IntWalk.i64_in _ (by have := HM1.out.2; omega)); have f5 := M12.out.row.frozen (j := 5) (by simp [dcells]); have g5 := M12.out.row.cell 5; have := HM1.out.2; clear this; clear h10 h11 hk hr hu))
        obtain ⟨w13, hw13⟩ : ∃ W, W = w12.setCell ⟨D, 5, none⟩ (.int .i64 (1 + r12)) := ⟨_, rfl⟩
        rw [← hw13]
        obtain ⟨d13, hd13⟩ : ∃ d : DrawL, d = { d11 with pick := 1 + r12 } := ⟨_, rfl⟩
        have M13 : Hid (MkAt w w13 w.heap.size (w.heap.size + 1) D (.slice A nl c) k12 d13 (.slice none 0 0) (.slice none 0 0) (.slice none 0 0) vb) := Lib.hid (by rw [hw13, hd13]; exact M12.out.set 5 _ rfl rfl rfl rfl rfl)
        have H13 : Hid (d13 = { name := 120 :: wordL r1, kind := 1 + 0, round := 1 + r4, price := r5, pool := 2 + r10, pick := 1 + r12, tiers := [], roll := false, places := [], cls := 0, size := 0, quotas := [], barred := B }) := Lib.hid (hd13.trans (congrArg (fun d : DrawL => { d with pick := 1 + r12 }) H11.out))
        clear hw13 hd13
        clear f5 g5 q12 e4
        go_upto_region 13 with (go_at_call 28; show Calls _ _ _ w13 _; refine (NM.out w13 _ 2 _ _ _ _ _ M13.out (by have := K12.out; omega) (by decide) (by decide)).mono ?_; rintro en w14 ⟨r14, k14, rfl, h10, h11, hk, hr, hu⟩; have M14 := Lib.hid (M13.out.next hr hu); have K14 : Hid (k14 ≤ 10 ∧ 0 ≤ r14 ∧ r14 < 2) := Lib.hid ⟨by have := K12.out; omega, h10, h11⟩; have f7 := M14.out.row.frozen (j := 7) (by simp [dcells]); have g7 := M14.out.row.cell 7; clear h10 h11 hk hr hu)
        obtain ⟨w15, hw15⟩ : ∃ W, W = w14.setCell ⟨D, 7, none⟩ (.bool (r14 == 1)) := ⟨_, rfl⟩
        rw [← hw15]
        obtain ⟨d15, hd15⟩ : ∃ d : DrawL, d = { d13 with roll := r14 == 1 } := ⟨_, rfl⟩
        have M15 : Hid (MkAt w w15 w.heap.size (w.heap.size + 1) D (.slice A nl c) k14 d15 (.slice none 0 0) (.slice none 0 0) (.slice none 0 0) vb) := Lib.hid (by rw [hw15, hd15]; exact M14.out.set 7 _ rfl rfl rfl rfl rfl)
        have H15 : Hid (d15 = { name := 120 :: wordL r1, kind := 1 + 0, round := 1 + r4, price := r5, pool := 2 + r10, pick := 1 + r12, tiers := [], roll := r14 == 1, places := [], cls := 0, size := 0, quotas := [], barred := B }) := Lib.hid (hd15.trans (congrArg (fun d : DrawL => { d with roll := r14 == 1 }) H13.out))
        clear hw15 hd15
        clear f7 g7
        obtain ⟨pk, hpk⟩ : ∃ x, x = 1 + r12 := ⟨_, rfl⟩
        rw [← hpk] at H15 ⊢
        have PK : Hid (1 ≤ pk ∧ pk ≤ 4 ∧ pk ≤ 2 + r10) := Lib.hid (by have := K12.out; have := HM1.out.2; have := K10.out; omega)
        clear hpk
        have e5 : w15.cell? ⟨D, 5, none⟩ = some (.int .i64 pk) := by have h := M15.out.row.cell 5; rw [H15.out] at h; exact h
        have q5 : IntKind.i64.wrap (pk + 1) = pk + 1 := IntWalk.i64_in _ (by have := PK.out; omega)
        obtain ⟨m2, hm2⟩ : ∃ x : Int, (if pk + 1 < 3 then pk + 1 else 3) = x := ⟨_, rfl⟩
        have HM2 : Hid ((if pk + 1 < 3 then pk + 1 else 3) = m2 ∧ 2 ≤ m2 ∧ m2 ≤ 3 ∧ m2 ≤ pk + 1) := Lib.hid ⟨hm2, by have := PK.out; split at hm2 <;> omega, by have := PK.out; split at hm2 <;> omega, by have := PK.out; split at hm2 <;> omega⟩
        clear hm2
        go_upto_region 14 with (first
          | (show wpList _ _ _ (⟨some 70, _, _, _, _, _⟩ :: _) _ _; refine wpList_min rfl _ _ _ rfl rfl rfl HM2.out.1 ?_)
          | (go_at_call 28; show Calls _ _ _ w15 _; refine (NM.out w15 _ m2 _ _ _ _ _ M15.out (by have := K14.out; have := HM2.out.2; omega) (by have := HM2.out.2; omega) (by have := HM2.out.2; omega)).mono ?_; rintro en w16 ⟨r16, k16, rfl, h10, h11, hk, hr, hu⟩; have M16 := Lib.hid (M15.out.next hr hu); have K16 : Hid (k16 ≤ 11 ∧ 0 ≤ r16 ∧ r16 < m2) := Lib.hid ⟨by have := K14.out; have := HM2.out.2; omega, h10, h11⟩; have q16 : IntKind.i64.wrap (1 + r16) = 1 + r16 := (IntWalk.i64_in _ (by have := HM2.out.2; omega)); clear h10 h11 hk hr hu))
        obtain ⟨u7, hu7⟩ : ∃ n : Nat, 1 + r16 = n := ⟨(1 + r16).toNat, by have := K16.out; omega⟩
        rw [hu7]
        have U7 : Hid (1 ≤ u7 ∧ u7 ≤ 3 ∧ (u7 : Int) ≤ pk + 1) := Lib.hid (by have := K16.out; have := HM2.out.2; omega)
        clear hu7 q16 q5 e5
        go_wp2_with (fail)
        go_loopw [8] (fun v wr => ∃ (i k : Nat) (B : List (Int × Int)) (vt : Value), v = .int .i64 i ∧ i ≤ u7 ∧ MkAt w wr w.heap.size (w.heap.size + 1) D (.slice A nl c) k (setT d15 B) vt (.slice none 0 0) (.slice none 0 0) vb ∧ B.length = i ∧ (∀ j, ∀ hj : j < B.length, B[j].1 = pk - j ∧ 1 ≤ B[j].2 ∧ B[j].2 ≤ 33) ∧ k ≤ 11 + i) (fun v _ => u7 - (intOf v).toNat)
        case atStart => exact ⟨0, k16, [], .slice none 0 0, rfl, Nat.zero_le _, by rw [show setT d15 [] = d15 by rw [H15.out]; rfl]; exact M16.out, rfl, by simp, by have := K16.out; omega⟩
        case round =>
          obtain ⟨i, k, T, vt, rfl, hi, hm, hB, hg, hk⟩ := hrel
          have MR := Lib.hid hm
          have HT := Lib.hid hB
          have HGT := Lib.hid hg
          have HKT := Lib.hid hk
          clear hm hB hg hk
          by_cases hlt : i < u7
          · have hi2 : i ≤ 2 := by have := U7.out; omega
            have hi0 : (0 : Int) ≤ i := by omega
            have hi1 : (i : Int) < u7 := by omega
            have hi3 : (i : Int) ≤ 2 := by omega
            have HI := Lib.hid hi2
            obtain ⟨A1, c1, e1, _⟩ := MR.out.t.form
            have e2 : (setT d15 T).tiers.length = i := HT.out
            rw [e2] at e1
            subst e1
            clear e2
            have d6 : wr.cell? ⟨D, 6, none⟩ = some (.slice A1 i c1) := MR.out.row.cell 6
            have d5 : wr.cell? ⟨D, 5, none⟩ = some (.int .i64 pk) := by have h := MR.out.row.cell 5; rw [H15.out] at h; exact h
            have MRD : Hid (MkAt w wr.drew w.heap.size (w.heap.size + 1) D (.slice A nl c) k (setT d15 T) (.slice A1 i c1) (.slice none 0 0) (.slice none 0 0) vb) := Lib.hid (MR.out.far ((Upd.refl _ wr).drew))
            have NXR := Lib.hid (NM.out wr.drew k 33 _ _ _ _ _ MRD.out (by have := HKT.out; have := HI.out; omega) (by decide) (by decide))
            go_wp2_with (fail)
            go_region_law ((first
              | (refine step_of rfl (wp_append_sl (.tmp 79) (.tmp 88) _ rfl T_tiers (v := .slice A1 i c1) rfl (M8.out.far ((Upd.refl _ w8).alloc _)).t (m := 1) (news := [.int .i64 (IntKind.i64.wrap (pk - (i : Int))), .int .i64 (IntKind.i64.wrap (1 + r8))]) rfl (Rd.of_new (cs := #[.int .i64 (IntKind.i64.wrap (pk - (i : Int))), .int .i64 (IntKind.i64.wrap (1 + r8))]) (Row.new_at _ _ _ _ rfl) rfl) (by intro u hu; simp at hu; rcases hu with rfl | rfl <;> rfl) HNM.out HBY.out ?_); intro vb' w9 hA; obtain ⟨A2, c2, rfl, _⟩ := hA.sl.form; have HH := addT2 (x := (IntKind.i64.wrap (pk - (i : Int)), IntKind.i64.wrap (1 + r8))) M8.out ((Upd.refl _ w8).alloc _) hA; have M9 := Lib.hid HH.2; clear d6 d5; have d6 := HH.1.cell 6; have f6 := HH.1.frozen (j := 6) (by simp [dcells]); clear hA HH)
              | (go_simp; go_at_call 28; refine NXR.out.mono ?_; rintro en w8 ⟨r8, k8, rfl, h10, h11, hk, hr, hu⟩; have M8 := Lib.hid (MRD.out.next hr hu); have K8 : Hid (k8 ≤ k + 1 ∧ 0 ≤ r8 ∧ r8 < 33) := Lib.hid ⟨hk, h10, h11⟩; clear d6 d5; have d6 : w8.cell? ⟨D, 6, none⟩ = some (.slice A1 i c1) := M8.out.row.cell 6; have d5 : w8.cell? ⟨D, 5, none⟩ = some (.int .i64 pk) := (by have h := M8.out.row.cell 5; rw [H15.out] at h; exact h); have hD8 := M8.out.row.lt; have hD8n : D ≠ w8.heap.size := Nat.ne_of_lt hD8; have HNM : Hid ((setT d15 T).tiers.length + 1 ≤ maxLen) := Lib.hid (by have := HT.out; have := HI.out; show T.length + 1 ≤ _; unfold maxLen; omega); have HBY : Hid (((setT d15 T).tiers.length + 1) * 16 ≤ 140737488355328) := Lib.hid (by have := HT.out; have := HI.out; show (T.length + 1) * 16 ≤ _; omega); clear h10 h11 hk hr hu)))
            all_goals have XX : Hid (IntKind.i64.wrap (pk - (i : Int)) = pk - (i : Int) ∧ IntKind.i64.wrap (1 + r8) = 1 + r8) := Lib.hid (by have := K8.out; have := PK.out; exact ⟨IntWalk.i64_in _ (by omega), IntWalk.i64_in _ (by omega)⟩)
            all_goals (go_wp2_with (fail); go_roundw)
            all_goals (first
              | exact ⟨i + 1, k8, T ++ [(pk - (i : Int), 1 + r8)], _, by go_num, by omega, by rw [← XX.out.1, ← XX.out.2]; exact M9.out, by simp [HT.out], growAny (p := fun j x => x.1 = pk - (j : Nat) ∧ 1 ≤ x.2 ∧ x.2 ≤ 33) HGT.out HT.out ⟨rfl, by have := K8.out; show 1 ≤ 1 + r8; omega, by have := K8.out; show 1 + r8 ≤ 33; omega⟩, by have := HKT.out; have := K8.out; omega⟩
              | (simp [intOf]; omega))
          · obtain rfl : i = u7 := by omega
            obtain ⟨d20, hd20⟩ : ∃ d : DrawL, d = setT d15 T := ⟨_, rfl⟩
            rw [← hd20] at MR
            have H20 : Hid (d20 = { name := 120 :: wordL r1, kind := 1 + 0, round := 1 + r4, price := r5, pool := 2 + r10, pick := pk, tiers := T, roll := r14 == 1, places := [], cls := 0, size := 0, quotas := [], barred := B }) := Lib.hid (by rw [hd20, H15.out]; rfl)
            have G := Lib.hid (good1 (d := d20) rfl ⟨by have := K4.out; omega, by have := K4.out; omega⟩ ⟨by have := K5.out; omega, by have := K5.out; omega⟩ ⟨by have := K10.out; omega, by have := K10.out; omega⟩ ⟨PK.out.1, PK.out.2.1, PK.out.2.2⟩ ⟨by have := HB.out; have := HU6.out; omega, HG.out⟩ ⟨by have := HT.out; have := U7.out; omega, by have := HT.out; have := U7.out; omega⟩ (by have := HT.out; have := U7.out; omega) HGT.out H20.out)
            clear hd20
            obtain ⟨At, ct, et, _⟩ := MR.out.t.form
            obtain ⟨nt, hnt⟩ : ∃ n, n = d20.tiers.length := ⟨_, rfl⟩
            rw [← hnt] at et
            subst et
            clear hnt
            obtain ⟨Ab, cb, eb, _⟩ := MR.out.b.form
            obtain ⟨nb, hnb⟩ : ∃ n, n = d20.barred.length := ⟨_, rfl⟩
            rw [← hnb] at eb
            subst eb
            clear hnb
            have hagg := Try.underlying30
            go_wp2_with (first
              | (show wpList _ _ _ (⟨some 151, _, _, _, _, _⟩ :: _) _ _; refine wpList_load_mid rfl 30 (.tmp 4) rfl D 0 rfl (dcells d20 (.slice At nt ct) (.slice none 0 0) (.slice none 0 0) (.slice Ab nb cb)) _ MR.out.row.rangeAt hagg rfl (by kernel_rfl) ?_)
              | (show wpList _ _ _ (⟨none, .store _ _ _, _, _, _, _⟩ :: _) _ _; refine wpList_store_all rfl 30 (.tmp 2) (.tmp 151) rfl (dcells d20 (.slice At nt ct) (.slice none 0 0) (.slice none 0 0) (.slice Ab nb cb)) rfl rfl MR.out.res rfl (by kernel_rfl) rfl ?_; intro wz hrz huz; have RZ := Lib.hid hrz; have UZ := Lib.hid huz; clear hrz huz))
            refine bodyPost_ret (results_row (g := w.heap.size) (cs := dcells d20 (.slice At nt ct) (.slice none 0 0) (.slice none 0 0) (.slice Ab nb cb)) rfl rfl RZ.out hagg rfl (by kernel_rfl)) rfl ?_
            exact mk_done MR.out G.out UZ.out
      · skip
        go_upto_region 19 with fail
        clear e1
        go_upto_region 20 with (go_at_call 28; show Calls _ _ _ wr _; refine (NM.out wr _ 3 _ _ _ _ _ MR.out (by have := HKB.out; have := HU6.out; omega) (by decide) (by decide)).mono ?_; rintro en w10 ⟨r10, k10, rfl, h10, h11, hk, hr, hu⟩; have M10 := Lib.hid (MR.out.next hr hu); have K10 : Hid (k10 ≤ 8 ∧ 0 ≤ r10 ∧ r10 < 3) := Lib.hid ⟨by have := HKB.out; have := HU6.out; omega, h10, h11⟩; have f4 := M10.out.row.frozen (j := 9) (by simp [dcells]); have g4 := M10.out.row.cell 9; clear h10 h11 hk hr hu)
        obtain ⟨w11, hw11⟩ : ∃ W, W = w10.setCell ⟨D, 9, none⟩ (.int .i64 r10) := ⟨_, rfl⟩
        rw [← hw11]
        obtain ⟨d11, hd11⟩ : ∃ d : DrawL, d = { d1 with cls := r10 } := ⟨_, rfl⟩
        have M11 : Hid (MkAt w w11 w.heap.size (w.heap.size + 1) D (.slice A nl c) k10 d11 (.slice none 0 0) (.slice none 0 0) (.slice none 0 0) vb) := Lib.hid (by rw [hw11, hd11]; exact M10.out.set 9 _ rfl rfl rfl rfl rfl)
        have H11 : Hid (d11 = { name := 120 :: wordL r1, kind := 1 + 1, round := 1 + r4, price := r5, pool := 0, pick := 0, tiers := [], roll := false, places := [], cls := r10, size := 0, quotas := [], barred := B }) := Lib.hid (hd11.trans (congrArg (fun d : DrawL => { d with cls := r10 }) H1.out))
        clear hw11 hd11
        clear f4 g4
        go_upto_region 21 with (go_at_call 28; show Calls _ _ _ w11 _; refine (NM.out w11 _ 3 _ _ _ _ _ M11.out (by have := K10.out; omega) (by decide) (by decide)).mono ?_; rintro en w12 ⟨r12, k12, rfl, h10, h11, hk, hr, hu⟩; have M12 := Lib.hid (M11.out.next hr hu); have K12 : Hid (k12 ≤ 9 ∧ 0 ≤ r12 ∧ r12 < 3) := Lib.hid ⟨by have := K10.out; omega, h10, h11⟩; have q12 : IntKind.i64.wrap (1 + r12) = 1 + r12 := (IntWalk.i64_in _ (by omega)); clear h10 h11 hk hr hu)
        obtain ⟨u7, hu7⟩ : ∃ n : Nat, 1 + r12 = n := ⟨(1 + r12).toNat, by have := K12.out; omega⟩
        rw [hu7]
        have U7 : Hid (1 ≤ u7 ∧ u7 ≤ 3) := Lib.hid (by have := K12.out; omega)
        clear hu7 q12
        go_wp2_with (fail)
        go_loopw [10] (fun v wr => ∃ (i k : Nat) (B : List (List UInt8 × Int)) (vp : Value), v = .int .i64 i ∧ i ≤ u7 ∧ MkAt w wr w.heap.size (w.heap.size + 1) D (.slice A nl c) k (setP d11 B) (.slice none 0 0) vp (.slice none 0 0) vb ∧ B.length = i ∧ (∀ j, ∀ hj : j < B.length, B[j].1 = wordL j ∧ 1 ≤ B[j].2 ∧ B[j].2 ≤ 3) ∧ k ≤ 9 + i) (fun v _ => u7 - (intOf v).toNat)
        case atStart => exact ⟨0, k12, [], .slice none 0 0, rfl, Nat.zero_le _, by rw [show setP d11 [] = d11 by rw [H11.out]; rfl]; exact M12.out, rfl, by simp, by have := K12.out; omega⟩
        case round =>
          obtain ⟨i, k, T, vp, rfl, hi, hm, hB, hg, hk⟩ := hrel
          have MR := Lib.hid hm
          have HT := Lib.hid hB
          have HGT := Lib.hid hg
          have HKT := Lib.hid hk
          clear hm hB hg hk
          by_cases hlt : i < u7
          · have hi2 : i ≤ 2 := by have := U7.out; omega
            have hi0 : (0 : Int) ≤ i := by omega
            have hi1 : (i : Int) < u7 := by omega
            have hi3 : (i : Int) ≤ 2 := by omega
            have HI := Lib.hid hi2
            obtain ⟨A1, c1, e1, _⟩ := MR.out.p.form
            have e2 : (setP d11 T).places.length = i := HT.out
            rw [e2] at e1
            subst e1
            clear e2
            have d8 : wr.cell? ⟨D, 8, none⟩ = some (.slice A1 i c1) := MR.out.row.cell 8
            have MRD : Hid (MkAt w wr.drew w.heap.size (w.heap.size + 1) D (.slice A nl c) k (setP d11 T) (.slice none 0 0) (.slice A1 i c1) (.slice none 0 0) vb) := Lib.hid (MR.out.far ((Upd.refl _ wr).drew))
            have WDR := Lib.hid (word6_any wr.drew (i : Int) (by unfold in64; omega))
            go_wp2_with (fail)
            go_region_law ((first
              | (refine step_of rfl (wp_append_sl (.tmp 105) (.tmp 112) _ rfl T_places (v := .slice A1 i c1) rfl (M9.out.far ((Upd.refl _ w9).alloc _)).p (m := 1) (news := [.string ⟨(wordL (i : Int)).toArray⟩, .int .i64 (IntKind.i64.wrap (1 + r9))]) rfl (Rd.of_new (cs := #[.string ⟨(wordL (i : Int)).toArray⟩, .int .i64 (IntKind.i64.wrap (1 + r9))]) (Row.new_at _ _ _ _ rfl) rfl) (by intro u hu; simp at hu; rcases hu with rfl | rfl <;> rfl) HNM.out HBY.out ?_); intro vb' w10 hA; obtain ⟨A2, c2, rfl, _⟩ := hA.sl.form; have HH := addP2 (x := (wordL (i : Int), IntKind.i64.wrap (1 + r9))) M9.out ((Upd.refl _ w9).alloc _) hA; have M10 := Lib.hid HH.2; clear d8; have d8 := HH.1.cell 8; have f8 := HH.1.frozen (j := 8) (by simp [dcells]); clear hA HH)
              | (go_simp; go_at_call 27; refine WDR.out.mono ?_; rintro en w8 ⟨rfl, hb⟩; have M8 := Lib.hid (MRD.out.far hb); clear d8; have d8 : w8.cell? ⟨D, 8, none⟩ = some (.slice A1 i c1) := M8.out.row.cell 8; have NXR := Lib.hid (NM.out w8 k 3 _ _ _ _ _ M8.out (by have := HKT.out; have := HI.out; omega) (by decide) (by decide)); clear hb)
              | (go_simp; go_at_call 28; refine NXR.out.mono ?_; rintro en w9 ⟨r9, k9, rfl, h10, h11, hk, hr, hu⟩; have M9 := Lib.hid (M8.out.next hr hu); have K9 : Hid (k9 ≤ k + 1 ∧ 0 ≤ r9 ∧ r9 < 3) := Lib.hid ⟨hk, h10, h11⟩; clear d8; have d8 : w9.cell? ⟨D, 8, none⟩ = some (.slice A1 i c1) := M9.out.row.cell 8; have hD8 := M9.out.row.lt; have hD8n : D ≠ w9.heap.size := Nat.ne_of_lt hD8; have HNM : Hid ((setP d11 T).places.length + 1 ≤ maxLen) := Lib.hid (by have := HT.out; have := HI.out; show T.length + 1 ≤ _; unfold maxLen; omega); have HBY : Hid (((setP d11 T).places.length + 1) * 24 ≤ 140737488355328) := Lib.hid (by have := HT.out; have := HI.out; show (T.length + 1) * 24 ≤ _; omega); clear h10 h11 hk hr hu)))
            all_goals have XX : Hid (IntKind.i64.wrap (1 + r9) = 1 + r9) := Lib.hid (by have := K9.out; exact IntWalk.i64_in _ (by omega))
            all_goals (go_wp2_with (fail); go_roundw)
            all_goals (first
              | exact ⟨i + 1, k9, T ++ [(wordL (i : Int), 1 + r9)], _, by go_num, by omega, by rw [← XX.out]; exact M10.out, by simp [HT.out], growAny (p := fun j x => x.1 = wordL (j : Nat) ∧ 1 ≤ x.2 ∧ x.2 ≤ 3) HGT.out HT.out ⟨rfl, by have := K9.out; show 1 ≤ 1 + r9; omega, by have := K9.out; show 1 + r9 ≤ 3; omega⟩, by have := HKT.out; have := K9.out; omega⟩
              | (simp [intOf]; omega))
          · obtain rfl : i = u7 := by omega
            obtain ⟨d20, hd20⟩ : ∃ d : DrawL, d = setP d11 T := ⟨_, rfl⟩
            rw [← hd20] at MR
            have H20 : Hid (d20 = { name := 120 :: wordL r1, kind := 1 + 1, round := 1 + r4, price := r5, pool := 0, pick := 0, tiers := [], roll := false, places := T, cls := r10, size := 0, quotas := [], barred := B }) := Lib.hid (by rw [hd20, H11.out]; rfl)
            have G := Lib.hid (good2 (d := d20) rfl ⟨by have := K4.out; omega, by have := K4.out; omega⟩ ⟨by have := K5.out; omega, by have := K5.out; omega⟩ ⟨by have := K10.out; omega, by have := K10.out; omega⟩ ⟨by have := HB.out; have := HU6.out; omega, HG.out⟩ ⟨by have := HT.out; have := U7.out; omega, by have := HT.out; have := U7.out; omega⟩ HGT.out H20.out)
            clear hd20
            obtain ⟨Ap, cp, ep, _⟩ := MR.out.p.form
            obtain ⟨np, hnp⟩ : ∃ n, n = d20.places.length := ⟨_, rfl⟩
            rw [← hnp] at ep
            subst ep
            clear hnp
            obtain ⟨Ab, cb, eb, _⟩ := MR.out.b.form
            obtain ⟨nb, hnb⟩ : ∃ n, n = d20.barred.length := ⟨_, rfl⟩
            rw [← hnb] at eb
            subst eb
            clear hnb
            have hagg := Try.underlying30
            go_wp2_with (first
              | (show wpList _ _ _ (⟨some 151, _, _, _, _, _⟩ :: _) _ _; refine wpList_load_mid rfl 30 (.tmp 4) rfl D 0 rfl (dcells d20 (.slice none 0 0) (.slice Ap np cp) (.slice none 0 0) (.slice Ab nb cb)) _ MR.out.row.rangeAt hagg rfl (by kernel_rfl) ?_)
              | (show wpList _ _ _ (⟨none, .store _ _ _, _, _, _, _⟩ :: _) _ _; refine wpList_store_all rfl 30 (.tmp 2) (.tmp 151) rfl (dcells d20 (.slice none 0 0) (.slice Ap np cp) (.slice none 0 0) (.slice Ab nb cb)) rfl rfl MR.out.res rfl (by kernel_rfl) rfl ?_; intro wz hrz huz; have RZ := Lib.hid hrz; have UZ := Lib.hid huz; clear hrz huz))
            refine bodyPost_ret (results_row (g := w.heap.size) (cs := dcells d20 (.slice none 0 0) (.slice Ap np cp) (.slice none 0 0) (.slice Ab nb cb)) rfl rfl RZ.out hagg rfl (by kernel_rfl)) rfl ?_
            exact mk_done MR.out G.out UZ.out
      · skip
        go_upto_region 26 with fail
        clear e1
        go_upto_region 27 with (go_at_call 28; show Calls _ _ _ wr _; refine (NM.out wr _ 3 _ _ _ _ _ MR.out (by have := HKB.out; have := HU6.out; omega) (by decide) (by decide)).mono ?_; rintro en w10 ⟨r10, k10, rfl, h10, h11, hk, hr, hu⟩; have M10 := Lib.hid (MR.out.next hr hu); have K10 : Hid (k10 ≤ 8 ∧ 0 ≤ r10 ∧ r10 < 3) := Lib.hid ⟨by have := HKB.out; have := HU6.out; omega, h10, h11⟩; have q10 : IntKind.i64.wrap (1 + r10) = 1 + r10 := (IntWalk.i64_in _ (by omega)); have f4 := M10.out.row.frozen (j := 10) (by simp [dcells]); have g4 := M10.out.row.cell 10; clear h10 h11 hk hr hu)
        obtain ⟨w11, hw11⟩ : ∃ W, W = w10.setCell ⟨D, 10, none⟩ (.int .i64 (1 + r10)) := ⟨_, rfl⟩
        rw [← hw11]
        obtain ⟨d11, hd11⟩ : ∃ d : DrawL, d = { d1 with size := 1 + r10 } := ⟨_, rfl⟩
        have M11 : Hid (MkAt w w11 w.heap.size (w.heap.size + 1) D (.slice A nl c) k10 d11 (.slice none 0 0) (.slice none 0 0) (.slice none 0 0) vb) := Lib.hid (by rw [hw11, hd11]; exact M10.out.set 10 _ rfl rfl rfl rfl rfl)
        have H11 : Hid (d11 = { name := 120 :: wordL r1, kind := 1 + 2, round := 1 + r4, price := r5, pool := 0, pick := 0, tiers := [], roll := false, places := [], cls := 0, size := 1 + r10, quotas := [], barred := B }) := Lib.hid (hd11.trans (congrArg (fun d : DrawL => { d with size := 1 + r10 }) H1.out))
        clear hw11 hd11
        clear f4 g4 q10
        go_upto_region 28 with (go_at_call 28; show Calls _ _ _ w11 _; refine (NM.out w11 _ 3 _ _ _ _ _ M11.out (by have := K10.out; omega) (by decide) (by decide)).mono ?_; rintro en w12 ⟨r12, k12, rfl, h10, h11, hk, hr, hu⟩; have M12 := Lib.hid (M11.out.next hr hu); have K12 : Hid (k12 ≤ 9 ∧ 0 ≤ r12 ∧ r12 < 3) := Lib.hid ⟨by have := K10.out; omega, h10, h11⟩; clear h10 h11 hk hr hu)
        obtain ⟨sz, hsz⟩ : ∃ x, x = 1 + r10 := ⟨_, rfl⟩
        rw [← hsz] at H11
        have SZ : Hid (1 ≤ sz ∧ sz ≤ 3) := Lib.hid (by have := K10.out; omega)
        clear hsz
        obtain ⟨u7, hu7⟩ : ∃ n : Nat, r12 = n := ⟨r12.toNat, by have := K12.out; omega⟩
        subst hu7
        have U7 : Hid (u7 ≤ 2) := Lib.hid (by have := K12.out; omega)
        go_wp2_with (fail)
        go_loopw [12] (fun v wr => ∃ (i k : Nat) (B : List (List UInt8 × Int × Int)) (vq : Value), v = .int .i64 i ∧ i ≤ u7 ∧ MkAt w wr w.heap.size (w.heap.size + 1) D (.slice A nl c) k (setQ d11 B) (.slice none 0 0) (.slice none 0 0) vq vb ∧ B.length = i ∧ (∀ j, ∀ hj : j < B.length, B[j].1 = wordL j ∧ 0 ≤ B[j].2.1 ∧ B[j].2.1 ≤ B[j].2.2 ∧ B[j].2.2 ≤ sz) ∧ k ≤ 9 + 3 * i) (fun v _ => u7 - (intOf v).toNat)
        case atStart => exact ⟨0, k12, [], .slice none 0 0, rfl, Nat.zero_le _, by rw [show setQ d11 [] = d11 by rw [H11.out]; rfl]; exact M12.out, rfl, by simp, by have := K12.out; omega⟩
        case round =>
          obtain ⟨i, k, T, vq, rfl, hi, hm, hB, hg, hk⟩ := hrel
          have MR := Lib.hid hm
          have HT := Lib.hid hB
          have HGT := Lib.hid hg
          have HKT := Lib.hid hk
          clear hm hB hg hk
          by_cases hlt : i < u7
          · have hi2 : i ≤ 1 := by have := U7.out; omega
            have hi0 : (0 : Int) ≤ i := by omega
            have hi1 : (i : Int) < u7 := by omega
            have hi3 : (i : Int) ≤ 1 := by omega
            have HI := Lib.hid hi2
            obtain ⟨A1, c1, e1, _⟩ := MR.out.q.form
            have e2 : (setQ d11 T).quotas.length = i := HT.out
            rw [e2] at e1
            subst e1
            clear e2
            have WI := Lib.hid (show in64 (i : Int) by unfold in64; omega)
            have e10 : (setQ d11 T).size = sz := by rw [H11.out]; rfl
            have E10 := Lib.hid e10
            clear e10
            have d10 : wr.cell? ⟨D, 10, none⟩ = some (.int .i64 sz) := by have h := MR.out.row.cell 10; rw [← E10.out]; exact h
            have MRD : Hid (MkAt w wr.drew w.heap.size (w.heap.size + 1) D (.slice A nl c) k (setQ d11 T) (.slice none 0 0) (.slice none 0 0) (.slice A1 i c1) vb) := Lib.hid (MR.out.far ((Upd.refl _ wr).drew))
            have ZQ := Lib.hid (show in64 (i : Int) by unfold in64; omega)
            go_upto_region 31 with fail
            go_cut [13] from 126 to 150 (fun v wx => ∃ (k' : Nat) (Q : Nat) (r : Int), v = .pointer (some ⟨Q, 0, none⟩) ∧ QAt w wx w.heap.size (w.heap.size + 1) D (.slice A nl c) k' (setQ d11 T) (.slice none 0 0) (.slice none 0 0) (.slice A1 i c1) vb Q (wordL (i : Int)) 0 r ∧ (0 ≤ r ∧ r ≤ sz ∧ k' ≤ k + 1))
            case first =>
              have qs : IntKind.i64.wrap (sz + 1) = sz + 1 := IntWalk.i64_in _ (by have := SZ.out; omega)
              have hDr := MR.out.row.lt
              have hDrn : D ≠ wr.heap.size := Nat.ne_of_lt hDr
              go_region_law ((first
                | (go_simp; go_at_call 27; refine (word6_any _ _ WI.out).mono ?_; rintro en w8 ⟨rfl, hb⟩; have M8 : Hid (MkAt w w8 w.heap.size (w.heap.size + 1) D (.slice A nl c) k (setQ d11 T) (.slice none 0 0) (.slice none 0 0) (.slice A1 i c1) vb) := Lib.hid (by first | exact MRD.out.far hb | exact (MRD.out.far ((Upd.refl _ _).alloc _)).far hb); have d10' : w8.cell? ⟨D, 10, none⟩ = some (.int .i64 sz) := (by have h := M8.out.row.cell 10; rw [← E10.out]; exact h); have hD8 := M8.out.row.lt; have hD8n : D ≠ w8.heap.size := Nat.ne_of_lt hD8; try (have RQ8 : Hid (Row w8 wr.heap.size 67 [.string ⟨#[]⟩, .int .i64 0, .int .i64 0]) := Lib.hid ((Row.new wr.drew _ _).upd hb id)); clear hb)
                | (go_simp; go_at_call 28; refine (NM.out _ k (sz + 1) _ _ _ _ _ (by first | exact M8.out | exact M8.out.far ((Upd.refl _ _).alloc _)) (by have := HKT.out; have := HI.out; omega) (by have := SZ.out; omega) (by have := SZ.out; omega)).mono ?_; rintro en w9 ⟨r9, k9, rfl, h10, h11, hk, hr, hu⟩; have M9 : Hid (MkAt w w9 w.heap.size (w.heap.size + 1) D (.slice A nl c) k9 (setQ d11 T) (.slice none 0 0) (.slice none 0 0) (.slice A1 i c1) vb) := Lib.hid (by first | exact M8.out.next hr hu | exact (M8.out.far ((Upd.refl _ _).alloc _)).next hr hu); have K9 : Hid (k9 ≤ k + 1 ∧ 0 ≤ r9 ∧ r9 < sz + 1) := Lib.hid ⟨hk, h10, h11⟩; first | (have RQ9 : Hid (Row w9 wr.heap.size 67 [.string ⟨#[]⟩, .int .i64 0, .int .i64 0]) := Lib.hid (RQ8.out.upd hu (fun e => by have := MRD.out.num.lt; have e2 : wr.heap.size = w.heap.size + 1 := e; have e3 : w.heap.size + 1 < wr.heap.size := this; omega)); have q0 := RQ9.out.cell 0; have q1 := RQ9.out.cell 1; have q2 := RQ9.out.cell 2; have g0 := RQ9.out.frozen (j := 0) (by simp); have g1 := RQ9.out.frozen (j := 1) (by simp); have g2 := RQ9.out.frozen (j := 2) (by simp)) | (have RQ9 : Hid (Row w9 w8.heap.size 67 [.string ⟨#[]⟩, .int .i64 0, .int .i64 0]) := Lib.hid ((Row.new w8 _ _).upd hu (fun e => by have := M8.out.num.lt; omega)); have q0 := RQ9.out.cell 0; have q1 := RQ9.out.cell 1; have q2 := RQ9.out.cell 2; have g0 := RQ9.out.frozen (j := 0) (by simp); have g1 := RQ9.out.frozen (j := 1) (by simp); have g2 := RQ9.out.frozen (j := 2) (by simp)) | skip; clear h10 h11 hk hr hu)))
              all_goals (go_wp2_with (fail); go_meet)
              all_goals (first
                | exact ⟨k9, _, r9, rfl, QAt.last M9.out rfl, by have := K9.out; exact ⟨by omega, by omega, by omega⟩⟩
                | exact ⟨k9, _, r9, rfl, QAt.cells M9.out MRD.out RQ9.out (Nat.le_refl _), by have := K9.out; exact ⟨by omega, by omega, by omega⟩⟩
                | exact ⟨k9, _, r9, rfl, QAt.cells M9.out M8.out RQ9.out (Nat.le_refl _), by have := K9.out; exact ⟨by omega, by omega, by omega⟩⟩)
            case rest =>
              obtain ⟨k10, Q, r, rfl, hq, hr1, hr2, hk10⟩ := hcut
              have Q10 := Lib.hid hq
              have K10q : Hid (k10 ≤ k + 1 ∧ 0 ≤ r ∧ r ≤ sz) := Lib.hid ⟨hk10, hr1, hr2⟩
              clear hq hr1 hr2 hk10 d10
              obtain ⟨wq, hwq⟩ : ∃ W, W = wc := ⟨_, rfl⟩
              rw [← hwq] at Q10 ⊢
              clear hwq
              go_upto_if 138 with (go_at_call 28; show Calls _ _ _ wq _; refine (NM.out wq _ 3 _ _ _ _ _ Q10.out.ma (by have := K10q.out; have := HKT.out; have := HI.out; omega) (by decide) (by decide)).mono ?_; rintro en w11b ⟨r11, k11, rfl, h10, h11, hk, hr, hu⟩; have Q11 := Lib.hid (Q10.out.next hr hu); have K11 : Hid (k11 ≤ k + 2) := Lib.hid (by have := K10q.out; omega); clear h10 h11 hk hr hu)
              go_cut [] from 126 to 150 (fun wx => ∃ (k' : Nat) (lo : Int), QAt w wx w.heap.size (w.heap.size + 1) D (.slice A nl c) k' (setQ d11 T) (.slice none 0 0) (.slice none 0 0) (.slice A1 i c1) vb Q (wordL (i : Int)) lo r ∧ (0 ≤ lo ∧ lo ≤ r ∧ k' ≤ k + 3))
              case first =>
                by_cases h2 : r11 = 2
                · have h2b : (r11 == 2) = true := by simpa using h2
                  have H2 := Lib.hid h2
                  clear h2
                  have e2 : w11b.cell? ⟨Q, 2, none⟩ = some (.int .i64 r) := Q11.out.row.cell 2
                  have qr : IntKind.i64.wrap (r + 1) = r + 1 := IntWalk.i64_in _ (by have := K10q.out; have := SZ.out; omega)
                  go_wp2_with (go_at_call 28; show Calls _ _ _ w11b _; refine (NM.out w11b _ (r + 1) _ _ _ _ _ Q11.out.ma (by have := K11.out; have := HKT.out; have := HI.out; omega) (by have := K10q.out; omega) (by have := K10q.out; have := SZ.out; omega)).mono ?_; rintro en w12b ⟨r13, k13, rfl, h10, h11, hk, hr, hu⟩; have Q12 := Lib.hid (Q11.out.next hr hu); have K13 : Hid (k13 ≤ k + 3 ∧ 0 ≤ r13 ∧ r13 < r + 1) := Lib.hid ⟨by have := K11.out; omega, h10, h11⟩; have e1' := Q12.out.row.cell 1; have f1' := Q12.out.row.frozen (j := 1) (by simp); clear e2 h10 h11 hk hr hu)
                  go_meet
                  exact ⟨k13, r13, Q12.out.set r13, by have := K13.out; exact ⟨by omega, by omega, by omega⟩⟩
                · have h2b : (r11 == 2) = false := by simpa using h2
                  have H2 := Lib.hid h2
                  clear h2
                  go_wp2_with (fail)
                  go_meet
                  exact ⟨k11, 0, Q11.out, by have := K11.out; have := K10q.out; exact ⟨by omega, by omega, by omega⟩⟩
              case rest =>
                obtain ⟨k14, lo, hq, hr1, hr2, hk14⟩ := hcut
                have Q14 := Lib.hid hq
                have K14 : Hid (k14 ≤ k + 3 ∧ 0 ≤ lo ∧ lo ≤ r) := Lib.hid ⟨hk14, hr1, hr2⟩
                clear hq hr1 hr2 hk14
                obtain ⟨w14, hw14⟩ : ∃ W, W = wc := ⟨_, rfl⟩
                rw [← hw14] at Q14 ⊢
                clear hw14
                have d11c : w14.cell? ⟨D, 11, none⟩ = some (.slice A1 i c1) := Q14.out.ma.row.cell 11
                have e0 : w14.cell? ⟨Q, 0, none⟩ = some (.string ⟨(wordL (i : Int)).toArray⟩) := Q14.out.row.cell 0
                have e1' : w14.cell? ⟨Q, 1, none⟩ = some (.int .i64 lo) := Q14.out.row.cell 1
                have e2 : w14.cell? ⟨Q, 2, none⟩ = some (.int .i64 r) := Q14.out.row.cell 2
                have hD8 := Q14.out.ma.row.lt
                have hD8n : D ≠ w14.heap.size := Nat.ne_of_lt hD8
                have HNM : Hid ((setQ d11 T).quotas.length + 1 ≤ maxLen) := Lib.hid (by have := HT.out; have := HI.out; show T.length + 1 ≤ _; unfold maxLen; omega)
                have HBY : Hid (((setQ d11 T).quotas.length + 1) * 32 ≤ 140737488355328) := Lib.hid (by have := HT.out; have := HI.out; show (T.length + 1) * 32 ≤ _; omega)
                go_wp2_with (first
                  | (at_builtin; refine wpList_append_sl rfl (.tmp 146) (.tmp 148) _ rfl T_quotas (v := .slice A1 i c1) rfl (Q14.out.ma.far ((Upd.refl _ w14).alloc _)).q (m := 1) (news := [.string ⟨(wordL (i : Int)).toArray⟩, .int .i64 lo, .int .i64 r]) rfl (Rd.of_new (cs := #[.string ⟨(wordL (i : Int)).toArray⟩, .int .i64 lo, .int .i64 r]) (Row.new_at _ _ _ _ rfl) rfl) (by intro u hu; simp at hu; rcases hu with rfl | rfl | rfl <;> rfl) HNM.out HBY.out ?_; intro vq' w15 hA; obtain ⟨A2, c2, rfl, _⟩ := hA.sl.form; have HH := addQ2 (x := (wordL (i : Int), lo, r)) Q14.out.ma ((Upd.refl _ w14).alloc _) hA; have M15 := Lib.hid HH.2; clear d11c; have d11c := HH.1.cell 11; have f11 := HH.1.frozen (j := 11) (by simp [dcells]); clear hA HH))
                go_roundw
                all_goals (first
                  | exact ⟨i + 1, k14, T ++ [(wordL (i : Int), lo, r)], _, by go_num, by omega, M15.out, by simp [HT.out], growAny (p := fun j x => x.1 = wordL (j : Nat) ∧ 0 ≤ x.2.1 ∧ x.2.1 ≤ x.2.2 ∧ x.2.2 ≤ sz) HGT.out HT.out ⟨rfl, K14.out.2.1, K14.out.2.2, K10q.out.2.2⟩, by have := HKT.out; have := K14.out; omega⟩
                  | ((repeat apply Exists.intro); exact ⟨⟨i + 1, k14, T ++ [(wordL (i : Int), lo, r)], _, by go_num, by omega, M15.out, by simp [HT.out], growAny (p := fun j x => x.1 = wordL (j : Nat) ∧ 0 ≤ x.2.1 ∧ x.2.1 ≤ x.2.2 ∧ x.2.2 ≤ sz) HGT.out HT.out ⟨rfl, K14.out.2.1, K14.out.2.2, K10q.out.2.2⟩, by have := HKT.out; have := K14.out; omega⟩, rfl⟩)
                  | (simp [intOf]; omega))
          · obtain rfl : i = u7 := by omega
            obtain ⟨d20, hd20⟩ : ∃ d : DrawL, d = setQ d11 T := ⟨_, rfl⟩
            rw [← hd20] at MR
            have H20 : Hid (d20 = { name := 120 :: wordL r1, kind := 1 + 2, round := 1 + r4, price := r5, pool := 0, pick := 0, tiers := [], roll := false, places := [], cls := 0, size := sz, quotas := T, barred := B }) := Lib.hid (by rw [hd20, H11.out]; rfl)
            have G := Lib.hid (good3 (d := d20) rfl ⟨by have := K4.out; omega, by have := K4.out; omega⟩ ⟨by have := K5.out; omega, by have := K5.out; omega⟩ ⟨by have := SZ.out; omega, by have := SZ.out; omega⟩ ⟨by have := HB.out; have := HU6.out; omega, HG.out⟩ (by have := HT.out; have := U7.out; omega) HGT.out H20.out)
            clear hd20
            obtain ⟨Aq, cq, eq, _⟩ := MR.out.q.form
            obtain ⟨nq, hnq⟩ : ∃ n, n = d20.quotas.length := ⟨_, rfl⟩
            rw [← hnq] at eq
            subst eq
            clear hnq
            obtain ⟨Ab, cb, eb, _⟩ := MR.out.b.form
            obtain ⟨nb, hnb⟩ : ∃ n, n = d20.barred.length := ⟨_, rfl⟩
            rw [← hnb] at eb
            subst eb
            clear hnb
            have hagg := Try.underlying30
            go_wp2_with (first
              | (show wpList _ _ _ (⟨some 151, _, _, _, _, _⟩ :: _) _ _; refine wpList_load_mid rfl 30 (.tmp 4) rfl D 0 rfl (dcells d20 (.slice none 0 0) (.slice none 0 0) (.slice Aq nq cq) (.slice Ab nb cb)) _ MR.out.row.rangeAt hagg rfl (by kernel_rfl) ?_)
              | (show wpList _ _ _ (⟨none, .store _ _ _, _, _, _, _⟩ :: _) _ _; refine wpList_store_all rfl 30 (.tmp 2) (.tmp 151) rfl (dcells d20 (.slice none 0 0) (.slice none 0 0) (.slice Aq nq cq) (.slice Ab nb cb)) rfl rfl MR.out.res rfl (by kernel_rfl) rfl ?_; intro wz hrz huz; have RZ := Lib.hid hrz; have UZ := Lib.hid huz; clear hrz huz))
            refine bodyPost_ret (results_row (g := w.heap.size) (cs := dcells d20 (.slice none 0 0) (.slice none 0 0) (.slice Aq nq cq) (.slice Ab nb cb)) rfl rfl RZ.out hagg rfl (by kernel_rfl)) rfl ?_
            exact mk_done MR.out G.out UZ.out
end Go.Proofs.Ytaejnhgnacgheaa
