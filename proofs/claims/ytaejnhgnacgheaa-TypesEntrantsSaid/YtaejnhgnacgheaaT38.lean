/- TypesEntrants: the walk (printed by gen-t38.py). -/
import Derived.Test.YtaejnhgnacgheaaT37
import Derived.Test.YtaejnhgnacgheaaT34
import Derived.Test.YtaejnhgnacgheaaT28
namespace Go.Proofs.Ytaejnhgnacgheaa
set_option linter.unusedVariables false
set_option linter.unusedSimpArgs false
open Go.RowKit

theorem oneE_lens {d : DrawL} (hg : Good d) (L : List Int) (K i : Nat) : (oneE d L K i).1.picks.length ≤ 32 ∧ (oneE d L K i).1.wishes.length ≤ 32 ∧ (oneE d L K i).1.groups.length ≤ 32 := by
  rcases hg.kind with hk | hk | hk
  · obtain ⟨⟨a1, a2, a3, a4, a5⟩, _⟩ := hg.k1 hk
    obtain ⟨hl, _⟩ := pickOf hg hk L K
    unfold oneE
    rw [if_pos hk]
    exact ⟨by show (lotP d L K).length ≤ _; omega, by simp, by simp⟩
  · have hp := (good_lens hg).2.1
    have b4 := nextV_bounds L (K + 3) (n := (d.places.length : Int) + 1) (by omega)
    unfold oneE
    rw [if_neg (by omega), if_pos hk]
    exact ⟨by simp, by show (balW d _ _).length ≤ _; rw [balW_len]; omega, by simp⟩
  · have hp := panG_len (nextV L K 8) 3 (by omega)
    unfold oneE
    rw [if_neg (by omega), if_neg (by omega)]
    exact ⟨by simp, by simp, by show (panG _ 3).length ≤ _; omega⟩
theorem entsL_lens {d : DrawL} (h : Good d) (L : List Int) : ∀ i, ∀ e, e ∈ (entsL d L i).1 → e.picks.length ≤ 32 ∧ e.wishes.length ≤ 32 ∧ e.groups.length ≤ 32
  | 0, e, he => by cases he
  | i + 1, e, he => by
    rcases List.mem_append.1 he with h1 | h1
    · exact entsL_lens h L i e h1
    · rw [List.mem_singleton.1 h1]
      exact oneE_lens h L _ _
/-- a value that is an entrant, whose lists can be read -/
def EntVV (w : World) (N : Nat) (v : Value) : Prop := ∃ (d : EntL) (B1 : Option Addr) (m1 k1 : Nat) (B2 : Option Addr) (m2 k2 : Nat) (B3 : Option Addr) (m3 k3 : Nat), v = evalE d (.slice B1 m1 k1) (.slice B2 m2 k2) (.slice B3 m3 k3) ∧ EntSl w d (.slice B1 m1 k1) (.slice B2 m2 k2) (.slice B3 m3 k3) ∧ ELens N d
theorem EntVV.kp {w w' : World} {N : Nat} {v : Value} (h : EntVV w N v) (hk : Kp w w') : EntVV w' N v := by
  obtain ⟨d, B1, m1, k1, B2, m2, k2, B3, m3, k3, h1, h2, h3⟩ := h
  exact ⟨d, B1, m1, k1, B2, m2, k2, B3, m3, k3, h1, h2.kp hk, h3⟩
theorem entvv_of {w w' : World} {N : Nat} {e : Ending} (h : OddP N w e w') : ∃ v, e = .returned v ∧ EntVV w' N v ∧ Kp w w' := by
  obtain ⟨d, vp, vw, vg, rfl, hi, hs, hk⟩ := h
  have hi' := hi
  obtain ⟨B1, k1, rfl, _⟩ := hi.p.form
  obtain ⟨B2, k2, rfl, _⟩ := hi.wi.form
  obtain ⟨B3, k3, rfl, _⟩ := hi.g.form
  exact ⟨_, rfl, ⟨d, B1, _, k1, B2, _, k2, B3, _, k3, rfl, hi', hs⟩, hk⟩
set_option maxHeartbeats 8000000 in
set_option maxRecDepth 20000 in
theorem ents_true (w : World) (A : Option Addr) (nl c : Nat) (L : List Int) (hl : Nums w (.slice A nl c) L) (hL : L.length ≤ maxLen) (hok : ∀ x, x ∈ L → in64 x)
    (B : Option Addr) (ml k : Nat) (M : List Int) (hm : Nums w (.slice B ml k) M) (hM : M.length ≤ maxLen) (hoM : ∀ x, x ∈ M → in64 x)
    (q r t : Int × Int × Int) (hq : in64 q.1 ∧ in64 q.2.1 ∧ in64 q.2.2) (hr : in64 r.1 ∧ in64 r.2.1 ∧ in64 r.2.2) (ht : in64 t.1 ∧ in64 t.2.1 ∧ in64 t.2.2) :
    Calls Try.prog 5 #[.agg #[.slice A nl c, .slice B ml k], .agg (int3E q ++ int3E r).toArray, .agg (int3E t).toArray] w (SaneP w) := by
  have HL := Lib.hid hl
  have HLL := Lib.hid hL
  have HOK := Lib.hid hok
  have HM := Lib.hid hm
  have HML := Lib.hid hM
  have HMOK := Lib.hid hoM
  have HQ := Lib.hid hq
  have HRR := Lib.hid hr
  have HTT := Lib.hid ht
  clear hl hL hok hm hM hoM hq hr ht
  obtain ⟨w1, hw1⟩ : ∃ W, W = (((w.alloc (.cells #[.slice A nl c, .slice B ml k] 41)).alloc (.cells #[.int .i64 q.1, .int .i64 q.2.1, .int .i64 q.2.2, .int .i64 r.1, .int .i64 r.2.1, .int .i64 r.2.2] 24)).alloc (.cells #[.int .i64 t.1, .int .i64 t.2.1, .int .i64 t.2.2] 23)) := ⟨_, rfl⟩
  have U1 : Hid (Kp w w1) := Lib.hid (by rw [hw1]; exact (((Upd.refl _ w).alloc _).alloc _).alloc _)
  have R0 : Hid (Row w1 w.heap.size 41 [.slice A nl c, .slice B ml k]) := Lib.hid (by rw [hw1]; exact (Row.new w _ _).upd (((Upd.refl (fun _ => False) _).alloc _).alloc _) id)
  have R1 : Hid (Row w1 (w.heap.size + 1) 24 ([.int .i64 q.1, .int .i64 q.2.1, .int .i64 q.2.2] ++ [.int .i64 r.1, .int .i64 r.2.1, .int .i64 r.2.2])) := Lib.hid (by rw [hw1]; exact (Row.new_at _ _ _ _ (by simp)).upd ((Upd.refl (fun _ => False) _).alloc _) id)
  have R2 : Hid (Row w1 (w.heap.size + 2) 23 [.int .i64 t.1, .int .i64 t.2.1, .int .i64 t.2.2]) := Lib.hid (by rw [hw1]; exact Row.new_at _ _ _ _ (by simp))
  have ROWS : Hid (∀ W, Kp w1 W → W.cell? ⟨w.heap.size, 0, none⟩ = some (.slice A nl c) ∧ W.cell? ⟨w.heap.size, 1, none⟩ = some (.slice B ml k) ∧ W.rangeAt (w.heap.size + 1) 0 [.int .i64 q.1, .int .i64 q.2.1, .int .i64 q.2.2] ∧ W.rangeAt (w.heap.size + 1) 3 [.int .i64 r.1, .int .i64 r.2.1, .int .i64 r.2.2] ∧ W.rangeAt (w.heap.size + 2) 0 [.int .i64 t.1, .int .i64 t.2.1, .int .i64 t.2.2]) := Lib.hid (fun W hW => ⟨(R0.out.upd hW id).cell 0, (R0.out.upd hW id).cell 1, (R1.out.upd hW id).rangeFst, (R1.out.upd hW id).rangeOff, (R2.out.upd hW id).rangeAt⟩)
  show Calls Try.prog 5 #[.agg #[.slice A nl c, .slice B ml k], .agg #[.int .i64 q.1, .int .i64 q.2.1, .int .i64 q.2.2, .int .i64 r.1, .int .i64 r.2.1, .int .i64 r.2.2], .agg #[.int .i64 t.1, .int .i64 t.2.1, .int .i64 t.2.2]] w (SaneP w)
  go_enter Try.func5, Try.ntmps5
  go_upto_region 1 with fail
  rw [← hw1]
  clear hw1
  go_upto_region 3 with (first
    | (go_at_call 10; refine (sanity_any _).mono ?_; rintro en w2 ⟨rfl, hb⟩; have U2 : Hid (Kp w1 w2) := Lib.hid hb; have x0 := (ROWS.out w2 hb).1; clear hb)
    | (go_at_call 11; refine (draw_any w2 A nl c L (HL.out.upd (U1.out.trans U2.out)) HLL.out HOK.out).mono ?_; rintro en w3 ⟨d, vt, vp, vq, vb, rfl, hdi, hgd, hb⟩; obtain ⟨A1, n1, c1, A2, n2, c2, A3, n3, c3, A4, n4, c4, rfl, rfl, rfl, rfl, hn4, hc4, hl4⟩ := hdi.forms; clear hn4 hl4 hc4; have U3 : Hid (Kp w1 w3) := Lib.hid (U2.out.trans hb); have DI := Lib.hid hdi; have GD := Lib.hid hgd; clear hb hdi hgd))
  clear x0
  obtain ⟨D, hD⟩ : ∃ D, D = w3.heap.size := ⟨_, rfl⟩
  obtain ⟨w4, hw4⟩ : ∃ W, W = w3.alloc (.cells (dcells d (.slice A1 n1 c1) (.slice A2 n2 c2) (.slice A3 n3 c3) (.slice A4 n4 c4)).toArray 30) := ⟨_, rfl⟩
  change Code.wp _ _ _ _ (w3.alloc (.cells (dcells d (.slice A1 n1 c1) (.slice A2 n2 c2) (.slice A3 n3 c3) (.slice A4 n4 c4)).toArray 30))
  have U4 : Hid (Kp w3 w4 ∧ Kp w1 w4) := Lib.hid (by rw [hw4]; exact ⟨(Upd.refl _ w3).alloc _, U3.out.trans ((Upd.refl _ w3).alloc _)⟩)
  have D4 : Hid (Row w4 D 30 (dcells d (.slice A1 n1 c1) (.slice A2 n2 c2) (.slice A3 n3 c3) (.slice A4 n4 c4))) := Lib.hid (by rw [hw4, hD]; exact Row.new _ _ _)
  have DI4 := Lib.hid (DI.out.kp U4.out.1)
  have SZ : Hid (SizesOk 12 d) := Lib.hid ⟨DI.out.ok, good_lens GD.out⟩
  rw [← hw4, ← hD]
  clear hw4 hD
  have hagg := Try.underlying30
  have hage := Try.underlying46
  have hag3 := Try.underlying23
  have x1 := (ROWS.out w4 U4.out.2).2.1
  go_upto_region 4 with (first
    | (show wpList _ _ _ (⟨some 18, _, _, _, _, _⟩ :: _) _ _; refine wpList_load_mid rfl 30 (.tmp 8) rfl D 0 rfl _ _ D4.out.rangeAt hagg rfl (by kernel_rfl) ?_)
    | (go_at_call 16; refine (entrants_any w4 d (.slice A1 n1 c1) (.slice A2 n2 c2) (.slice A3 n3 c3) (.slice A4 n4 c4) DI4.out GD.out B ml k M (HM.out.upd (U1.out.trans U4.out.2)) HML.out HMOK.out).mono ?_; rintro en w5 ⟨v, X, rfl, hX, hout, hb⟩; obtain ⟨XA, xc, rfl, _⟩ := hout.sl.form; have U5 : Hid (Kp w4 w5) := Lib.hid hb; have HX := Lib.hid hX; have HOUT := Lib.hid hout; clear hb hX hout))
  clear x1
  have D5 := Lib.hid (D4.out.upd U5.out id)
  have DI5 := Lib.hid (DI4.out.kp U5.out)
  have RT := Lib.hid (ROWS.out w5 (U4.out.2.trans U5.out)).2.2.2.2
  go_upto_region 5 with (first
    | (show wpList _ _ _ (⟨some 22, _, _, _, _, _⟩ :: _) _ _; refine wpList_load_mid rfl 30 (.tmp 8) rfl D 0 rfl _ _ D5.out.rangeAt hagg rfl (by kernel_rfl) ?_)
    | (show wpList _ _ _ (⟨some 23, _, _, _, _, _⟩ :: _) _ _; refine wpList_load_mid rfl 23 (.tmp 5) rfl (w.heap.size + 2) 0 rfl [.int .i64 t.1, .int .i64 t.2.1, .int .i64 t.2.2] _ RT.out hag3 rfl (by kernel_rfl) ?_)
    | (go_at_call 12; refine (bent_any w5 d (.slice A1 n1 c1) (.slice A2 n2 c2) (.slice A3 n3 c3) (.slice A4 n4 c4) DI5.out 12 SZ.out (by decide) t.1 t.2.1 t.2.2 HTT.out.1 HTT.out.2.1 HTT.out.2.2).mono ?_; rintro en w6 hB; obtain ⟨v4, rfl, ⟨a, aA1, an1, ac1, aA2, an2, ac2, aA3, an3, ac3, aA4, an4, ac4, rfl, hai, has⟩, hb⟩ := drawv_of hB; have U6 : Hid (Kp w5 w6) := Lib.hid hb; have AI := Lib.hid hai; clear hB hb hai has))
  obtain ⟨E, hE⟩ : ∃ E, E = w6.heap.size := ⟨_, rfl⟩
  obtain ⟨w7, hw7⟩ : ∃ W, W = w6.alloc (.cells (dcells a (.slice aA1 an1 ac1) (.slice aA2 an2 ac2) (.slice aA3 an3 ac3) (.slice aA4 an4 ac4)).toArray 30) := ⟨_, rfl⟩
  change Code.wp _ _ _ _ (w6.alloc (.cells (dcells a (.slice aA1 an1 ac1) (.slice aA2 an2 ac2) (.slice aA3 an3 ac3) (.slice aA4 an4 ac4)).toArray 30))
  have U7 : Hid (Kp w5 w7) := Lib.hid (by rw [hw7]; exact U6.out.trans ((Upd.refl _ w6).alloc _))
  have U17 : Hid (Kp w1 w7) := Lib.hid (U4.out.2.trans (U5.out.trans U7.out))
  have D7 := Lib.hid (D5.out.upd U7.out id)
  have DI7 := Lib.hid (DI5.out.kp U7.out)
  have E7 : Hid (Row w7 E 30 (dcells a (.slice aA1 an1 ac1) (.slice aA2 an2 ac2) (.slice aA3 an3 ac3) (.slice aA4 an4 ac4))) := Lib.hid (by rw [hw7, hE]; exact Row.new _ _ _)
  have AI7 : Hid (DrawIn w7 a (.slice aA1 an1 ac1) (.slice aA2 an2 ac2) (.slice aA3 an3 ac3) (.slice aA4 an4 ac4)) := Lib.hid (AI.out.in_.kp (by rw [hw7]; exact (Upd.refl _ w6).alloc _))
  have OUT7 := Lib.hid (HOUT.out.far U7.out)
  rw [← hw7, ← hE]
  clear hw7 hE
  obtain ⟨n, hn⟩ : ∃ n, n = X.length := ⟨_, rfl⟩
  rw [← hn]
  have HN := Lib.hid hn
  have HLST : Hid (Lst 6 entE w7 (.slice XA n xc) X) := Lib.hid (by rw [hn]; exact Sl.lst (fun _ => rfl) OUT7.out.sl)
  clear hn
  have HBND : Hid (n ≤ 1000000) := Lib.hid (by
    have h := congrArg List.length HX.out
    rw [List.length_map, entsL_len] at h
    have b := nextV_bounds M 0 (n := 7) (by decide)
    have := HN.out
    omega)
  have HEOK : Hid (∀ x, x ∈ X → entrantL d x.1 = 0 ∧ ELens 32 x.1 ∧ EntSl w7 x.1 x.2.1 x.2.2.1 x.2.2.2) := Lib.hid (fun x hx => by
    have hm : x.1 ∈ (entsL d M (nextV M 0 7).toNat).1 := by rw [← HX.out]; exact List.mem_map_of_mem hx
    have b := nextV_bounds M 0 (n := 7) (by decide)
    have hs := OUT7.out.each x hx
    exact ⟨entsL_ok GD.out M _ (by omega) _ hm, ⟨hs.ok, entsL_lens GD.out M _ _ hm⟩, hs⟩)
  go_wp2_with fail
  go_loopw [11] (fun v wr => ∃ i : Nat, v = .int .i64 i ∧ i ≤ n ∧ Kp w7 wr) (fun v _ => n - (intOf v).toNat)
  case atStart => exact ⟨0, rfl, Nat.zero_le _, Upd.refl _ _⟩
  case round =>
    obtain ⟨i, rfl, hi, hu⟩ := hrel
    obtain ⟨wo, hwo⟩ : ∃ W, W = wr := ⟨_, rfl⟩
    rw [← hwo] at hu ⊢
    clear hwo
    have HU := Lib.hid hu
    clear hu
    have hi0 : (0 : Int) ≤ i := by omega
    have hi9 : (i : Int) ≤ 1000000 := by have := HBND.out; omega
    by_cases hlt : i < n
    · have hlti : (i : Int) < n := by omega
      have hil : i < X.length := by rw [← HN.out]; exact hlt
      obtain ⟨x, hx⟩ : ∃ x, x = X[i] := ⟨_, rfl⟩
      obtain ⟨hxe, hxl, hxs⟩ := HEOK.out X[i] (List.getElem_mem _)
      obtain ⟨g, o, eA, hc⟩ := (show LstA 6 entE w7 XA xc X by obtain ⟨A', c', h1, h2⟩ := HLST.out; cases h1; exact h2).at_ hil
      rw [← hx] at hxe hxl hxs hc
      have RX : Hid (w7.rangeAt g (o + i * 6) (entE x)) := Lib.hid (fun j u hj => hc j u hj)
      have HXE := Lib.hid hxe
      have HXL := Lib.hid hxl
      have HXS := Lib.hid hxs
      clear hx hxe hxl hxs hc
      subst eA
      have HODD : Hid (∀ W, Kp wo W → Calls Try.prog 17 #[.agg (entE x).toArray, .agg #[.int .i64 q.1, .int .i64 q.2.1, .int .i64 q.2.2]] W fun e w'' => ∃ v, e = .returned v ∧ EntVV w'' 52 v ∧ Kp W w'') := Lib.hid (fun W hW => (odd_any W x.1 x.2.1 x.2.2.1 x.2.2.2 (HXS.out.kp (HU.out.trans hW)).in_ 32 HXL.out (by decide) q.1 q.2.1 q.2.2 HQ.out.1 HQ.out.2.1 HQ.out.2.2).mono (fun e w'' h => entvv_of h))
      have RO := Lib.hid (ROWS.out wo (U17.out.trans HU.out))
      go_upto_region 8 with fail
      refine wp_region_last (dl := [31, 32, 33, 34, 35, 36, 37, 12]) (spec := (fun t v w' => match t with | 31 => v = .slice (some ⟨g, o, none⟩) n xc | 32 => v = .int .i64 i | 33 => v = .pointer (some ⟨g, o + i * 6, none⟩) | 34 => v = .agg (entE x).toArray | 35 => v = .pointer (some ⟨w.heap.size + 1, 0, none⟩) | 36 => v = .agg #[.int .i64 q.1, .int .i64 q.2.1, .int .i64 q.2.2] | 37 => EntVV w' 52 v | 12 => ∃ g2, v = .pointer (some ⟨g2, 0, none⟩) ∧ wo.heap.size ≤ g2 ∧ Row w' g2 46 zero6 | _ => True)) (by kernel_rfl) [[], [], [31, 32], [33], [], [35], [34, 36], [], [12, 37]] (by kernel_rfl) rfl (by kernel_rfl) ?_ ⟨?_, ?_, ?_, ?_, ?_, ?_, ?_, ?_, trivial⟩ ?_
      · intro t v w1' w2' h hk
        revert h
        split <;> intro h <;> first | exact h | exact h.kp hk | (obtain ⟨g, h1, h2, h3⟩ := h; exact ⟨g, h1, h2, h3.upd hk id⟩)
      · intro a' w' hs hk hd
        have i9 : a'.eval (.tmp 9) = .slice (some ⟨g, o, none⟩) n xc := hs.keep 9 (by decide)
        rw [if_pos (by rfl)]
        rw [eval_get] at i9
        refine leaves_value (v := .slice (some ⟨g, o, none⟩) n xc) (w' := w') ?_ (Upd.refl _ _) (fun d h => by cases h; rfl)
        go_simp
      · intro a' w' hs hk hd
        have i11 : a'.eval (.tmp 11) = .int .i64 i := hs.keep 11 (by decide)
        rw [if_pos (by rfl)]
        rw [eval_get] at i11
        refine leaves_value (v := .int .i64 i) (w' := w') ?_ (Upd.refl _ _) (fun d h => by cases h; rfl)
        go_simp
      · intro a' w' hs hk hd
        have i31 : a'.eval (.tmp 31) = .slice (some ⟨g, o, none⟩) n xc := hd 31 (by simp)
        have i32 : a'.eval (.tmp 32) = .int .i64 i := hd 32 (by simp)
        rw [if_pos (by rfl)]
        rw [eval_get] at i31 i32
        refine leaves_value (v := .pointer (some ⟨g, o + i * 6, none⟩)) (w' := w') ?_ (Upd.refl _ _) (fun d h => by cases h; rfl)
        go_simp
      · intro a' w' hs hk hd
        have i33 : a'.eval (.tmp 33) = .pointer (some ⟨g, o + i * 6, none⟩) := hd 33 (by simp)
        rw [if_pos (by rfl)]
        exact leaves_value (run_leaf_load 46 (.tmp 33) rfl g (o + i * 6) i33 (entE x) _ (rangeAt_kp RX.out (HU.out.trans hk)) hage rfl (by kernel_rfl)) (Upd.refl _ _) (fun d h => by cases h; rfl)
      · intro a' w' hs hk hd
        have i4 : a'.eval (.tmp 4) = .pointer (some ⟨w.heap.size + 1, 0, none⟩) := hs.keep 4 (by decide)
        rw [if_pos (by rfl)]
        rw [eval_get] at i4
        refine leaves_value (v := .pointer (some ⟨w.heap.size + 1, 0, none⟩)) (w' := w') ?_ (Upd.refl _ _) (fun d h => by cases h; rfl)
        go_simp
      · intro a' w' hs hk hd
        have i35 : a'.eval (.tmp 35) = .pointer (some ⟨w.heap.size + 1, 0, none⟩) := hd 35 (by simp)
        rw [if_pos (by rfl)]
        exact leaves_value (run_leaf_load 23 (.tmp 35) rfl (w.heap.size + 1) 0 i35 [.int .i64 q.1, .int .i64 q.2.1, .int .i64 q.2.2] _ (rangeAt_kp RO.out.2.2.1 hk) hag3 rfl (by kernel_rfl)) (Upd.refl _ _) (fun d h => by cases h; rfl)
      · intro a' w' hs hk hd
        have i34 : a'.eval (.tmp 34) = .agg (entE x).toArray := hd 34 (by simp)
        have i36 : a'.eval (.tmp 36) = .agg #[.int .i64 q.1, .int .i64 q.2.1, .int .i64 q.2.2] := hd 36 (by simp)
        rw [if_pos (by rfl)]
        rw [eval_get] at i34 i36
        refine leaves_call (f := 17) (args := #[.agg (entE x).toArray, .agg #[.int .i64 q.1, .int .i64 q.2.1, .int .i64 q.2.2]]) ?_ ((HODD.out w' hk).mono (by rintro en w'' ⟨v, rfl, h2, h3⟩; exact ⟨_, rfl, h3, fun d h => by cases h; exact h2⟩))
        go_simp
      · intro a' w' hs hk hd
        rw [if_pos (by rfl)]
        refine leaves_value (v := .pointer (some ⟨w'.heap.size, 0, none⟩)) (w' := w'.alloc (.cells zero6.toArray 46)) ?_ ((Upd.refl _ w').alloc _) (fun d h => by cases h; exact ⟨_, rfl, hk.size, Row.new w' _ _⟩)
        go_simp
      · intro op a' w' ho hs hk hd
        have ho' : op = _ := (Option.some.inj ho).symm
        subst ho'
        have i12 : ∃ g2, a'.eval (.tmp 12) = .pointer (some ⟨g2, 0, none⟩) ∧ wo.heap.size ≤ g2 ∧ Row w' g2 46 zero6 := hd 7 _ 12 (by decide) rfl rfl
        have i37 : EntVV w' 52 (a'.eval (.tmp 37)) := hd 6 _ 37 (by decide) rfl rfl
        rw [if_pos (by rfl)]
        obtain ⟨P, e12, hg, hrow⟩ := i12
        obtain ⟨p, pB1, pm1, pk1, pB2, pm2, pk2, pB3, pm3, pk3, e37, hpi, hpl⟩ := i37
        refine wp_store_mid 46 (.tmp 12) (.tmp 37) rfl P 0 (ecells p (.slice pB1 pm1 pk1) (.slice pB2 pm2 pk2) (.slice pB3 pm3 pk3)).toArray e12 e37 (hrow.there (by simp [zero6])) (by kernel_rfl) (by rw [List.all_toArray]; rfl) ?_
        have hS := hrow.setFull (cs := ecells p (.slice pB1 pm1 pk1) (.slice pB2 pm2 pk2) (.slice pB3 pm3 pk3)) rfl
        obtain ⟨w8, hw8⟩ : ∃ W, W = w'.setCells P 0 (ecells p (.slice pB1 pm1 pk1) (.slice pB2 pm2 pk2) (.slice pB3 pm3 pk3)) := ⟨_, rfl⟩
        have P8 : Hid (Row w8 P 46 (ecells p (.slice pB1 pm1 pk1) (.slice pB2 pm2 pk2) (.slice pB3 pm3 pk3))) := Lib.hid (by rw [hw8]; exact hS.1)
        have U8 : Hid (Kp wo w8) := Lib.hid (by rw [hw8]; exact Upd.trans hk hS.2 (fun b hb e => by omega))
        have PI8 : Hid (EntSl w8 p (.slice pB1 pm1 pk1) (.slice pB2 pm2 pk2) (.slice pB3 pm3 pk3)) := Lib.hid (hpi.off hrow (by decide) (by decide) (by rw [hw8]; exact hS.2))
        have PL := Lib.hid hpl
        have hlist : (ecells p (.slice pB1 pm1 pk1) (.slice pB2 pm2 pk2) (.slice pB3 pm3 pk3)).toArray.toList = ecells p (.slice pB1 pm1 pk1) (.slice pB2 pm2 pk2) (.slice pB3 pm3 pk3) := rfl
        rw [hlist, ← hw8]
        clear hw8 hS hlist
        show Exit.then _ _ Exit.normal a' w8
        obtain ⟨f, hf⟩ := hs.lit
        rw [hf]
        have hf12 : f 12 = .pointer (some ⟨P, 0, none⟩) := by rw [hf] at e12; exact e12
        clear hf e12 e37 hk hs hd hrow hpi hpl hg
        simp only [pickS, Nat.reduceAdd, List.contains_cons, List.contains_nil, Nat.reduceBEq, Bool.or_false, Bool.false_or, Bool.or_true, Bool.true_or, Bool.false_eq_true, if_true, if_false, hf12]
        have R8 := Lib.hid (rangeAt_kp RO.out.2.2.2.1 U8.out)
        go_upto_region 10 with (first
          | (show wpList _ _ _ (⟨some 38, _, _, _, _, _⟩ :: _) _ _; refine wpList_load_mid rfl 46 (.tmp 12) rfl P 0 rfl (ecells p (.slice pB1 pm1 pk1) (.slice pB2 pm2 pk2) (.slice pB3 pm3 pk3)) _ P8.out.rangeAt hage rfl (by kernel_rfl) ?_)
          | (show wpList _ _ _ (⟨some 40, _, _, _, _, _⟩ :: _) _ _; refine wpList_load_mid rfl 23 (.tmp 39) rfl (w.heap.size + 1) 3 rfl [.int .i64 r.1, .int .i64 r.2.1, .int .i64 r.2.2] _ R8.out hag3 rfl (by kernel_rfl) ?_)
          | (go_at_call 17; refine (odd_any w8 p (.slice pB1 pm1 pk1) (.slice pB2 pm2 pk2) (.slice pB3 pm3 pk3) PI8.out.in_ 52 PL.out (by decide) r.1 r.2.1 r.2.2 HRR.out.1 HRR.out.2.1 HRR.out.2.2).mono ?_; rintro en w9 hO; obtain ⟨v9, rfl, ⟨s, sB1, sm1, sk1, sB2, sm2, sk2, sB3, sm3, sk3, rfl, hsi, hsl⟩, hb⟩ := entvv_of hO; have U9 : Hid (Kp w8 w9) := Lib.hid hb; have SI := Lib.hid hsi; clear hO hb hsi hsl))
        obtain ⟨S, hS⟩ : ∃ S, S = w9.heap.size := ⟨_, rfl⟩
        obtain ⟨w10, hw10⟩ : ∃ W, W = w9.alloc (.cells (ecells s (.slice sB1 sm1 sk1) (.slice sB2 sm2 sk2) (.slice sB3 sm3 sk3)).toArray 46) := ⟨_, rfl⟩
        change Code.wp _ _ _ _ (w9.alloc (.cells (ecells s (.slice sB1 sm1 sk1) (.slice sB2 sm2 sk2) (.slice sB3 sm3 sk3)).toArray 46))
        have U10 : Hid (Kp w8 w10) := Lib.hid (by rw [hw10]; exact U9.out.trans ((Upd.refl _ w9).alloc _))
        have SW : Hid (w10.rangeAt S 0 (ecells s (.slice sB1 sm1 sk1) (.slice sB2 sm2 sk2) (.slice sB3 sm3 sk3))) := Lib.hid (by rw [hw10, hS]; exact (Row.new _ _ _).rangeAt)
        have SI10 : Hid (EntIn w10 s (.slice sB1 sm1 sk1) (.slice sB2 sm2 sk2) (.slice sB3 sm3 sk3)) := Lib.hid (SI.out.kp (by rw [hw10]; exact (Upd.refl _ w9).alloc _)).in_
        rw [← hw10, ← hS]
        clear hw10 hS
        have UM9 : Hid (Kp w7 w10) := Lib.hid (HU.out.trans (U8.out.trans U10.out))
        have PW := Lib.hid (P8.out.upd U10.out id).rangeAt
        have DW := Lib.hid (D7.out.upd UM9.out id).rangeAt
        have EW := Lib.hid (E7.out.upd UM9.out id).rangeAt
        have RX2 := Lib.hid (rangeAt_kp RX.out UM9.out)
        have I1 := Lib.hid (DI7.out.kp UM9.out)
        have I2 := Lib.hid (AI7.out.kp UM9.out)
        have I3 := Lib.hid (PI8.out.kp U10.out).in_
        have I4 := Lib.hid (HXS.out.kp UM9.out).in_
        obtain ⟨r1, hr1⟩ : ∃ r, r = entrantL d p := ⟨_, rfl⟩
        obtain ⟨r2, hr2⟩ : ∃ r, r = entrantL d s := ⟨_, rfl⟩
        obtain ⟨r3, hr3⟩ : ∃ r, r = entrantL a p := ⟨_, rfl⟩
        have HC1 : Hid (∀ W, Kp w10 W → Calls Try.prog 18 #[.agg (dcells d (.slice A1 n1 c1) (.slice A2 n2 c2) (.slice A3 n3 c3) (.slice A4 n4 c4)).toArray, .agg (entE x).toArray] W (Gives W (.int .i64 0))) := Lib.hid (fun W hW => by rw [← HXE.out]; exact entrant_any W d (.slice A1 n1 c1) (.slice A2 n2 c2) (.slice A3 n3 c3) (.slice A4 n4 c4) (I1.out.kp hW) x.1 x.2.1 x.2.2.1 x.2.2.2 (I4.out.kp hW))
        have HTr1 : Hid (∀ W, Kp w10 W → Calls Try.prog 18 #[.agg (dcells d (.slice A1 n1 c1) (.slice A2 n2 c2) (.slice A3 n3 c3) (.slice A4 n4 c4)).toArray, .agg (ecells p (.slice pB1 pm1 pk1) (.slice pB2 pm2 pk2) (.slice pB3 pm3 pk3)).toArray] W (Gives W (.int .i64 r1))) := Lib.hid (fun W hW => by rw [hr1]; exact entrant_any W d (.slice A1 n1 c1) (.slice A2 n2 c2) (.slice A3 n3 c3) (.slice A4 n4 c4) (I1.out.kp hW) p (.slice pB1 pm1 pk1) (.slice pB2 pm2 pk2) (.slice pB3 pm3 pk3) (I3.out.kp hW))
        have HTr2 : Hid (∀ W, Kp w10 W → Calls Try.prog 18 #[.agg (dcells d (.slice A1 n1 c1) (.slice A2 n2 c2) (.slice A3 n3 c3) (.slice A4 n4 c4)).toArray, .agg (ecells s (.slice sB1 sm1 sk1) (.slice sB2 sm2 sk2) (.slice sB3 sm3 sk3)).toArray] W (Gives W (.int .i64 r2))) := Lib.hid (fun W hW => by rw [hr2]; exact entrant_any W d (.slice A1 n1 c1) (.slice A2 n2 c2) (.slice A3 n3 c3) (.slice A4 n4 c4) (I1.out.kp hW) s (.slice sB1 sm1 sk1) (.slice sB2 sm2 sk2) (.slice sB3 sm3 sk3) (SI10.out.kp hW))
        have HTr3 : Hid (∀ W, Kp w10 W → Calls Try.prog 18 #[.agg (dcells a (.slice aA1 an1 ac1) (.slice aA2 an2 ac2) (.slice aA3 an3 ac3) (.slice aA4 an4 ac4)).toArray, .agg (ecells p (.slice pB1 pm1 pk1) (.slice pB2 pm2 pk2) (.slice pB3 pm3 pk3)).toArray] W (Gives W (.int .i64 r3))) := Lib.hid (fun W hW => by rw [hr3]; exact entrant_any W a (.slice aA1 an1 ac1) (.slice aA2 an2 ac2) (.slice aA3 an3 ac3) (.slice aA4 an4 ac4) (I2.out.kp hW) p (.slice pB1 pm1 pk1) (.slice pB2 pm2 pk2) (.slice pB3 pm3 pk3) (I3.out.kp hW))
        have HRr1 : Hid (∀ W, Kp w10 W → Calls Try.prog 19 #[.agg (dcells d (.slice A1 n1 c1) (.slice A2 n2 c2) (.slice A3 n3 c3) (.slice A4 n4 c4)).toArray, .agg (ecells p (.slice pB1 pm1 pk1) (.slice pB2 pm2 pk2) (.slice pB3 pm3 pk3)).toArray] W (Gives W (.int .i64 r1))) := Lib.hid (fun W hW => by rw [hr1]; exact rentrant_any W d (.slice A1 n1 c1) (.slice A2 n2 c2) (.slice A3 n3 c3) (.slice A4 n4 c4) (I1.out.kp hW) p (.slice pB1 pm1 pk1) (.slice pB2 pm2 pk2) (.slice pB3 pm3 pk3) (I3.out.kp hW))
        have HRr2 : Hid (∀ W, Kp w10 W → Calls Try.prog 19 #[.agg (dcells d (.slice A1 n1 c1) (.slice A2 n2 c2) (.slice A3 n3 c3) (.slice A4 n4 c4)).toArray, .agg (ecells s (.slice sB1 sm1 sk1) (.slice sB2 sm2 sk2) (.slice sB3 sm3 sk3)).toArray] W (Gives W (.int .i64 r2))) := Lib.hid (fun W hW => by rw [hr2]; exact rentrant_any W d (.slice A1 n1 c1) (.slice A2 n2 c2) (.slice A3 n3 c3) (.slice A4 n4 c4) (I1.out.kp hW) s (.slice sB1 sm1 sk1) (.slice sB2 sm2 sk2) (.slice sB3 sm3 sk3) (SI10.out.kp hW))
        have HRr3 : Hid (∀ W, Kp w10 W → Calls Try.prog 19 #[.agg (dcells a (.slice aA1 an1 ac1) (.slice aA2 an2 ac2) (.slice aA3 an3 ac3) (.slice aA4 an4 ac4)).toArray, .agg (ecells p (.slice pB1 pm1 pk1) (.slice pB2 pm2 pk2) (.slice pB3 pm3 pk3)).toArray] W (Gives W (.int .i64 r3))) := Lib.hid (fun W hW => by rw [hr3]; exact rentrant_any W a (.slice aA1 an1 ac1) (.slice aA2 an2 ac2) (.slice aA3 an3 ac3) (.slice aA4 an4 ac4) (I2.out.kp hW) p (.slice pB1 pm1 pk1) (.slice pB2 pm2 pk2) (.slice pB3 pm3 pk3) (I3.out.kp hW))
        clear hr1 hr2 hr3
        refine wp_region_specs (dl := [42, 43, 44, 45, 46, 47, 48, 49, 50, 51, 52, 53, 54, 55, 56, 57, 58, 59, 60, 61, 62, 63, 64, 65, 66, 67, 68, 69, 70, 71, 72, 73, 74, 75]) (spec := (fun t v w' => match t with | 42 => v = .agg (dcells d (.slice A1 n1 c1) (.slice A2 n2 c2) (.slice A3 n3 c3) (.slice A4 n4 c4)).toArray | 43 => v = .slice (some ⟨g, o, none⟩) n xc | 44 => v = .int .i64 i | 45 => v = .pointer (some ⟨g, o + i * 6, none⟩) | 46 => v = .agg (entE x).toArray | 47 => v = .int .i64 0 | 48 => v = .bool false | 49 => v = .bool false | 50 => v = .agg (dcells d (.slice A1 n1 c1) (.slice A2 n2 c2) (.slice A3 n3 c3) (.slice A4 n4 c4)).toArray | 51 => v = .agg (ecells p (.slice pB1 pm1 pk1) (.slice pB2 pm2 pk2) (.slice pB3 pm3 pk3)).toArray | 52 => v = .int .i64 r1 | 53 => v = .agg (dcells d (.slice A1 n1 c1) (.slice A2 n2 c2) (.slice A3 n3 c3) (.slice A4 n4 c4)).toArray | 54 => v = .agg (ecells p (.slice pB1 pm1 pk1) (.slice pB2 pm2 pk2) (.slice pB3 pm3 pk3)).toArray | 55 => v = .int .i64 r1 | 56 => v = .bool false | 57 => v = .bool false | 58 => v = .bool false | 59 => v = .agg (dcells d (.slice A1 n1 c1) (.slice A2 n2 c2) (.slice A3 n3 c3) (.slice A4 n4 c4)).toArray | 60 => v = .agg (ecells s (.slice sB1 sm1 sk1) (.slice sB2 sm2 sk2) (.slice sB3 sm3 sk3)).toArray | 61 => v = .int .i64 r2 | 62 => v = .agg (dcells d (.slice A1 n1 c1) (.slice A2 n2 c2) (.slice A3 n3 c3) (.slice A4 n4 c4)).toArray | 63 => v = .agg (ecells s (.slice sB1 sm1 sk1) (.slice sB2 sm2 sk2) (.slice sB3 sm3 sk3)).toArray | 64 => v = .int .i64 r2 | 65 => v = .bool false | 66 => v = .bool false | 67 => v = .bool false | 68 => v = .agg (dcells a (.slice aA1 an1 ac1) (.slice aA2 an2 ac2) (.slice aA3 an3 ac3) (.slice aA4 an4 ac4)).toArray | 69 => v = .agg (ecells p (.slice pB1 pm1 pk1) (.slice pB2 pm2 pk2) (.slice pB3 pm3 pk3)).toArray | 70 => v = .int .i64 r3 | 71 => v = .agg (dcells a (.slice aA1 an1 ac1) (.slice aA2 an2 ac2) (.slice aA3 an3 ac3) (.slice aA4 an4 ac4)).toArray | 72 => v = .agg (ecells p (.slice pB1 pm1 pk1) (.slice pB2 pm2 pk2) (.slice pB3 pm3 pk3)).toArray | 73 => v = .int .i64 r3 | 74 => v = .bool false | 75 => v = .bool false | _ => True)) (by kernel_rfl) [[], [], [], [43, 44], [45], [42, 46], [47], [48], [49], [49], [50, 51, 49], [49], [49], [53, 54, 49], [52, 55, 49], [49, 56], [57], [58], [58], [59, 60, 58], [58], [58], [62, 63, 58], [61, 64, 58], [58, 65], [66], [67], [67], [68, 69, 67], [67], [67], [71, 72, 67], [70, 73, 67], [67, 74]] (by kernel_rfl) rfl ?_ ⟨?_, ?_, ?_, ?_, ?_, ?_, ?_, ?_, ?_, ?_, ?_, ?_, ?_, ?_, ?_, ?_, ?_, ?_, ?_, ?_, ?_, ?_, ?_, ?_, ?_, ?_, ?_, ?_, ?_, ?_, ?_, ?_, ?_, ?_, trivial⟩ ?_
        · intro t v w1' w2' h hk
          revert h
          split <;> intro h <;> exact h
        · intro a' w' hs hk hd
          have i8 : a'.eval (.tmp 8) = .pointer (some ⟨D, 0, none⟩) := hs.keep 8 (by decide)
          rw [if_pos (by rfl)]
          exact leaves_value (run_leaf_load 30 (.tmp 8) rfl D 0 i8 (dcells d (.slice A1 n1 c1) (.slice A2 n2 c2) (.slice A3 n3 c3) (.slice A4 n4 c4)) _ (rangeAt_kp DW.out hk) hagg rfl (by kernel_rfl)) (Upd.refl _ _) (fun d h => by cases h; rfl)
        · intro a' w' hs hk hd
          have i9 : a'.eval (.tmp 9) = .slice (some ⟨g, o, none⟩) n xc := hs.keep 9 (by decide)
          rw [if_pos (by rfl)]
          rw [eval_get] at i9
          refine leaves_value (v := .slice (some ⟨g, o, none⟩) n xc) (w' := w') ?_ (Upd.refl _ _) (fun d h => by cases h; rfl)
          go_simp
        · intro a' w' hs hk hd
          have i11 : a'.eval (.tmp 11) = .int .i64 i := hs.keep 11 (by decide)
          rw [if_pos (by rfl)]
          rw [eval_get] at i11
          refine leaves_value (v := .int .i64 i) (w' := w') ?_ (Upd.refl _ _) (fun d h => by cases h; rfl)
          go_simp
        · intro a' w' hs hk hd
          have i43 : a'.eval (.tmp 43) = .slice (some ⟨g, o, none⟩) n xc := hd 43 (by simp)
          have i44 : a'.eval (.tmp 44) = .int .i64 i := hd 44 (by simp)
          rw [if_pos (by rfl)]
          rw [eval_get] at i43 i44
          refine leaves_value (v := .pointer (some ⟨g, o + i * 6, none⟩)) (w' := w') ?_ (Upd.refl _ _) (fun d h => by cases h; rfl)
          go_simp
        · intro a' w' hs hk hd
          have i45 : a'.eval (.tmp 45) = .pointer (some ⟨g, o + i * 6, none⟩) := hd 45 (by simp)
          rw [if_pos (by rfl)]
          exact leaves_value (run_leaf_load 46 (.tmp 45) rfl g (o + i * 6) i45 (entE x) _ (rangeAt_kp RX2.out hk) hage rfl (by kernel_rfl)) (Upd.refl _ _) (fun d h => by cases h; rfl)
        · intro a' w' hs hk hd
          have i42 : a'.eval (.tmp 42) = .agg (dcells d (.slice A1 n1 c1) (.slice A2 n2 c2) (.slice A3 n3 c3) (.slice A4 n4 c4)).toArray := hd 42 (by simp)
          have i46 : a'.eval (.tmp 46) = .agg (entE x).toArray := hd 46 (by simp)
          rw [if_pos (by rfl)]
          rw [eval_get] at i42 i46
          refine leaves_call (f := 18) (args := #[.agg (dcells d (.slice A1 n1 c1) (.slice A2 n2 c2) (.slice A3 n3 c3) (.slice A4 n4 c4)).toArray, .agg (entE x).toArray]) ?_ ((HC1.out w' hk).mono (by rintro en w'' ⟨rfl, hb⟩; exact ⟨_, rfl, hb, fun d h => by cases h; rfl⟩))
          go_simp
        · intro a' w' hs hk hd
          have i47 : a'.eval (.tmp 47) = .int .i64 0 := hd 47 (by simp)
          rw [if_pos (by rfl)]
          rw [eval_get] at i47
          refine leaves_value (v := .bool false) (w' := w') ?_ (Upd.refl _ _) (fun d h => by cases h; rfl)
          go_simp
        · intro a' w' hs hk hd
          have i48 : a'.eval (.tmp 48) = .bool false := hd 48 (by simp)
          rw [if_pos (by rfl)]
          rw [eval_get] at i48
          refine leaves_value (v := .bool false) (w' := w') ?_ (Upd.refl _ _) (fun d h => by cases h; rfl)
          go_simp
        · intro a' w' hs hk hd
          have i49 : a'.eval (.tmp 49) = .bool false := hd 49 (by simp)
          have i8 : a'.eval (.tmp 8) = .pointer (some ⟨D, 0, none⟩) := hs.keep 8 (by decide)
          rw [if_pos (by unfold Region.wanted; simp only []; rw [yielded_of (d := 49) rfl i49]; rfl)]
          exact leaves_value (run_leaf_load 30 (.tmp 8) rfl D 0 i8 (dcells d (.slice A1 n1 c1) (.slice A2 n2 c2) (.slice A3 n3 c3) (.slice A4 n4 c4)) _ (rangeAt_kp DW.out hk) hagg rfl (by kernel_rfl)) (Upd.refl _ _) (fun d h => by cases h; rfl)
        · intro a' w' hs hk hd
          have i49 : a'.eval (.tmp 49) = .bool false := hd 49 (by simp)
          have i12 : a'.eval (.tmp 12) = .pointer (some ⟨P, 0, none⟩) := hs.keep 12 (by decide)
          rw [if_pos (by unfold Region.wanted; simp only []; rw [yielded_of (d := 49) rfl i49]; rfl)]
          exact leaves_value (run_leaf_load 46 (.tmp 12) rfl P 0 i12 (ecells p (.slice pB1 pm1 pk1) (.slice pB2 pm2 pk2) (.slice pB3 pm3 pk3)) _ (rangeAt_kp PW.out hk) hage rfl (by kernel_rfl)) (Upd.refl _ _) (fun d h => by cases h; rfl)
        · intro a' w' hs hk hd
          have i50 : a'.eval (.tmp 50) = .agg (dcells d (.slice A1 n1 c1) (.slice A2 n2 c2) (.slice A3 n3 c3) (.slice A4 n4 c4)).toArray := hd 50 (by simp)
          have i51 : a'.eval (.tmp 51) = .agg (ecells p (.slice pB1 pm1 pk1) (.slice pB2 pm2 pk2) (.slice pB3 pm3 pk3)).toArray := hd 51 (by simp)
          have i49 : a'.eval (.tmp 49) = .bool false := hd 49 (by simp)
          rw [if_pos (by unfold Region.wanted; simp only []; rw [yielded_of (d := 49) rfl i49]; rfl)]
          rw [eval_get] at i50 i51 i49
          refine leaves_call (f := 18) (args := #[.agg (dcells d (.slice A1 n1 c1) (.slice A2 n2 c2) (.slice A3 n3 c3) (.slice A4 n4 c4)).toArray, .agg (ecells p (.slice pB1 pm1 pk1) (.slice pB2 pm2 pk2) (.slice pB3 pm3 pk3)).toArray]) ?_ ((HTr1.out w' hk).mono (by rintro en w'' ⟨rfl, hb⟩; exact ⟨_, rfl, hb, fun d h => by cases h; rfl⟩))
          go_simp
        · intro a' w' hs hk hd
          have i49 : a'.eval (.tmp 49) = .bool false := hd 49 (by simp)
          have i8 : a'.eval (.tmp 8) = .pointer (some ⟨D, 0, none⟩) := hs.keep 8 (by decide)
          rw [if_pos (by unfold Region.wanted; simp only []; rw [yielded_of (d := 49) rfl i49]; rfl)]
          exact leaves_value (run_leaf_load 30 (.tmp 8) rfl D 0 i8 (dcells d (.slice A1 n1 c1) (.slice A2 n2 c2) (.slice A3 n3 c3) (.slice A4 n4 c4)) _ (rangeAt_kp DW.out hk) hagg rfl (by kernel_rfl)) (Upd.refl _ _) (fun d h => by cases h; rfl)
        · intro a' w' hs hk hd
          have i49 : a'.eval (.tmp 49) = .bool false := hd 49 (by simp)
          have i12 : a'.eval (.tmp 12) = .pointer (some ⟨P, 0, none⟩) := hs.keep 12 (by decide)
          rw [if_pos (by unfold Region.wanted; simp only []; rw [yielded_of (d := 49) rfl i49]; rfl)]
          exact leaves_value (run_leaf_load 46 (.tmp 12) rfl P 0 i12 (ecells p (.slice pB1 pm1 pk1) (.slice pB2 pm2 pk2) (.slice pB3 pm3 pk3)) _ (rangeAt_kp PW.out hk) hage rfl (by kernel_rfl)) (Upd.refl _ _) (fun d h => by cases h; rfl)
        · intro a' w' hs hk hd
          have i53 : a'.eval (.tmp 53) = .agg (dcells d (.slice A1 n1 c1) (.slice A2 n2 c2) (.slice A3 n3 c3) (.slice A4 n4 c4)).toArray := hd 53 (by simp)
          have i54 : a'.eval (.tmp 54) = .agg (ecells p (.slice pB1 pm1 pk1) (.slice pB2 pm2 pk2) (.slice pB3 pm3 pk3)).toArray := hd 54 (by simp)
          have i49 : a'.eval (.tmp 49) = .bool false := hd 49 (by simp)
          rw [if_pos (by unfold Region.wanted; simp only []; rw [yielded_of (d := 49) rfl i49]; rfl)]
          rw [eval_get] at i53 i54 i49
          refine leaves_call (f := 19) (args := #[.agg (dcells d (.slice A1 n1 c1) (.slice A2 n2 c2) (.slice A3 n3 c3) (.slice A4 n4 c4)).toArray, .agg (ecells p (.slice pB1 pm1 pk1) (.slice pB2 pm2 pk2) (.slice pB3 pm3 pk3)).toArray]) ?_ ((HRr1.out w' hk).mono (by rintro en w'' ⟨rfl, hb⟩; exact ⟨_, rfl, hb, fun d h => by cases h; rfl⟩))
          go_simp
        · intro a' w' hs hk hd
          have i52 : a'.eval (.tmp 52) = .int .i64 r1 := hd 52 (by simp)
          have i55 : a'.eval (.tmp 55) = .int .i64 r1 := hd 55 (by simp)
          have i49 : a'.eval (.tmp 49) = .bool false := hd 49 (by simp)
          rw [if_pos (by unfold Region.wanted; simp only []; rw [yielded_of (d := 49) rfl i49]; rfl)]
          rw [eval_get] at i52 i55 i49
          refine leaves_value (v := .bool false) (w' := w') ?_ (Upd.refl _ _) (fun d h => by cases h; rfl)
          go_simp
        · intro a' w' hs hk hd
          have i49 : a'.eval (.tmp 49) = .bool false := hd 49 (by simp)
          have i56 : a'.eval (.tmp 56) = .bool false := hd 56 (by simp)
          rw [if_pos (by rfl)]
          rw [eval_get] at i49 i56
          refine leaves_value (v := .bool false) (w' := w') ?_ (Upd.refl _ _) (fun d h => by cases h; rfl)
          go_simp
        · intro a' w' hs hk hd
          have i57 : a'.eval (.tmp 57) = .bool false := hd 57 (by simp)
          rw [if_pos (by rfl)]
          rw [eval_get] at i57
          refine leaves_value (v := .bool false) (w' := w') ?_ (Upd.refl _ _) (fun d h => by cases h; rfl)
          go_simp
        · intro a' w' hs hk hd
          have i58 : a'.eval (.tmp 58) = .bool false := hd 58 (by simp)
          have i8 : a'.eval (.tmp 8) = .pointer (some ⟨D, 0, none⟩) := hs.keep 8 (by decide)
          rw [if_pos (by unfold Region.wanted; simp only []; rw [yielded_of (d := 58) rfl i58]; rfl)]
          exact leaves_value (run_leaf_load 30 (.tmp 8) rfl D 0 i8 (dcells d (.slice A1 n1 c1) (.slice A2 n2 c2) (.slice A3 n3 c3) (.slice A4 n4 c4)) _ (rangeAt_kp DW.out hk) hagg rfl (by kernel_rfl)) (Upd.refl _ _) (fun d h => by cases h; rfl)
        · intro a' w' hs hk hd
          have i58 : a'.eval (.tmp 58) = .bool false := hd 58 (by simp)
          have i13 : a'.eval (.tmp 13) = .pointer (some ⟨S, 0, none⟩) := hs.keep 13 (by decide)
          rw [if_pos (by unfold Region.wanted; simp only []; rw [yielded_of (d := 58) rfl i58]; rfl)]
          exact leaves_value (run_leaf_load 46 (.tmp 13) rfl S 0 i13 (ecells s (.slice sB1 sm1 sk1) (.slice sB2 sm2 sk2) (.slice sB3 sm3 sk3)) _ (rangeAt_kp SW.out hk) hage rfl (by kernel_rfl)) (Upd.refl _ _) (fun d h => by cases h; rfl)
        · intro a' w' hs hk hd
          have i59 : a'.eval (.tmp 59) = .agg (dcells d (.slice A1 n1 c1) (.slice A2 n2 c2) (.slice A3 n3 c3) (.slice A4 n4 c4)).toArray := hd 59 (by simp)
          have i60 : a'.eval (.tmp 60) = .agg (ecells s (.slice sB1 sm1 sk1) (.slice sB2 sm2 sk2) (.slice sB3 sm3 sk3)).toArray := hd 60 (by simp)
          have i58 : a'.eval (.tmp 58) = .bool false := hd 58 (by simp)
          rw [if_pos (by unfold Region.wanted; simp only []; rw [yielded_of (d := 58) rfl i58]; rfl)]
          rw [eval_get] at i59 i60 i58
          refine leaves_call (f := 18) (args := #[.agg (dcells d (.slice A1 n1 c1) (.slice A2 n2 c2) (.slice A3 n3 c3) (.slice A4 n4 c4)).toArray, .agg (ecells s (.slice sB1 sm1 sk1) (.slice sB2 sm2 sk2) (.slice sB3 sm3 sk3)).toArray]) ?_ ((HTr2.out w' hk).mono (by rintro en w'' ⟨rfl, hb⟩; exact ⟨_, rfl, hb, fun d h => by cases h; rfl⟩))
          go_simp
        · intro a' w' hs hk hd
          have i58 : a'.eval (.tmp 58) = .bool false := hd 58 (by simp)
          have i8 : a'.eval (.tmp 8) = .pointer (some ⟨D, 0, none⟩) := hs.keep 8 (by decide)
          rw [if_pos (by unfold Region.wanted; simp only []; rw [yielded_of (d := 58) rfl i58]; rfl)]
          exact leaves_value (run_leaf_load 30 (.tmp 8) rfl D 0 i8 (dcells d (.slice A1 n1 c1) (.slice A2 n2 c2) (.slice A3 n3 c3) (.slice A4 n4 c4)) _ (rangeAt_kp DW.out hk) hagg rfl (by kernel_rfl)) (Upd.refl _ _) (fun d h => by cases h; rfl)
        · intro a' w' hs hk hd
          have i58 : a'.eval (.tmp 58) = .bool false := hd 58 (by simp)
          have i13 : a'.eval (.tmp 13) = .pointer (some ⟨S, 0, none⟩) := hs.keep 13 (by decide)
          rw [if_pos (by unfold Region.wanted; simp only []; rw [yielded_of (d := 58) rfl i58]; rfl)]
          exact leaves_value (run_leaf_load 46 (.tmp 13) rfl S 0 i13 (ecells s (.slice sB1 sm1 sk1) (.slice sB2 sm2 sk2) (.slice sB3 sm3 sk3)) _ (rangeAt_kp SW.out hk) hage rfl (by kernel_rfl)) (Upd.refl _ _) (fun d h => by cases h; rfl)
        · intro a' w' hs hk hd
          have i62 : a'.eval (.tmp 62) = .agg (dcells d (.slice A1 n1 c1) (.slice A2 n2 c2) (.slice A3 n3 c3) (.slice A4 n4 c4)).toArray := hd 62 (by simp)
          have i63 : a'.eval (.tmp 63) = .agg (ecells s (.slice sB1 sm1 sk1) (.slice sB2 sm2 sk2) (.slice sB3 sm3 sk3)).toArray := hd 63 (by simp)
          have i58 : a'.eval (.tmp 58) = .bool false := hd 58 (by simp)
          rw [if_pos (by unfold Region.wanted; simp only []; rw [yielded_of (d := 58) rfl i58]; rfl)]
          rw [eval_get] at i62 i63 i58
          refine leaves_call (f := 19) (args := #[.agg (dcells d (.slice A1 n1 c1) (.slice A2 n2 c2) (.slice A3 n3 c3) (.slice A4 n4 c4)).toArray, .agg (ecells s (.slice sB1 sm1 sk1) (.slice sB2 sm2 sk2) (.slice sB3 sm3 sk3)).toArray]) ?_ ((HRr2.out w' hk).mono (by rintro en w'' ⟨rfl, hb⟩; exact ⟨_, rfl, hb, fun d h => by cases h; rfl⟩))
          go_simp
        · intro a' w' hs hk hd
          have i61 : a'.eval (.tmp 61) = .int .i64 r2 := hd 61 (by simp)
          have i64 : a'.eval (.tmp 64) = .int .i64 r2 := hd 64 (by simp)
          have i58 : a'.eval (.tmp 58) = .bool false := hd 58 (by simp)
          rw [if_pos (by unfold Region.wanted; simp only []; rw [yielded_of (d := 58) rfl i58]; rfl)]
          rw [eval_get] at i61 i64 i58
          refine leaves_value (v := .bool false) (w' := w') ?_ (Upd.refl _ _) (fun d h => by cases h; rfl)
          go_simp
        · intro a' w' hs hk hd
          have i58 : a'.eval (.tmp 58) = .bool false := hd 58 (by simp)
          have i65 : a'.eval (.tmp 65) = .bool false := hd 65 (by simp)
          rw [if_pos (by rfl)]
          rw [eval_get] at i58 i65
          refine leaves_value (v := .bool false) (w' := w') ?_ (Upd.refl _ _) (fun d h => by cases h; rfl)
          go_simp
        · intro a' w' hs hk hd
          have i66 : a'.eval (.tmp 66) = .bool false := hd 66 (by simp)
          rw [if_pos (by rfl)]
          rw [eval_get] at i66
          refine leaves_value (v := .bool false) (w' := w') ?_ (Upd.refl _ _) (fun d h => by cases h; rfl)
          go_simp
        · intro a' w' hs hk hd
          have i67 : a'.eval (.tmp 67) = .bool false := hd 67 (by simp)
          have i10 : a'.eval (.tmp 10) = .pointer (some ⟨E, 0, none⟩) := hs.keep 10 (by decide)
          rw [if_pos (by unfold Region.wanted; simp only []; rw [yielded_of (d := 67) rfl i67]; rfl)]
          exact leaves_value (run_leaf_load 30 (.tmp 10) rfl E 0 i10 (dcells a (.slice aA1 an1 ac1) (.slice aA2 an2 ac2) (.slice aA3 an3 ac3) (.slice aA4 an4 ac4)) _ (rangeAt_kp EW.out hk) hagg rfl (by kernel_rfl)) (Upd.refl _ _) (fun d h => by cases h; rfl)
        · intro a' w' hs hk hd
          have i67 : a'.eval (.tmp 67) = .bool false := hd 67 (by simp)
          have i12 : a'.eval (.tmp 12) = .pointer (some ⟨P, 0, none⟩) := hs.keep 12 (by decide)
          rw [if_pos (by unfold Region.wanted; simp only []; rw [yielded_of (d := 67) rfl i67]; rfl)]
          exact leaves_value (run_leaf_load 46 (.tmp 12) rfl P 0 i12 (ecells p (.slice pB1 pm1 pk1) (.slice pB2 pm2 pk2) (.slice pB3 pm3 pk3)) _ (rangeAt_kp PW.out hk) hage rfl (by kernel_rfl)) (Upd.refl _ _) (fun d h => by cases h; rfl)
        · intro a' w' hs hk hd
          have i68 : a'.eval (.tmp 68) = .agg (dcells a (.slice aA1 an1 ac1) (.slice aA2 an2 ac2) (.slice aA3 an3 ac3) (.slice aA4 an4 ac4)).toArray := hd 68 (by simp)
          have i69 : a'.eval (.tmp 69) = .agg (ecells p (.slice pB1 pm1 pk1) (.slice pB2 pm2 pk2) (.slice pB3 pm3 pk3)).toArray := hd 69 (by simp)
          have i67 : a'.eval (.tmp 67) = .bool false := hd 67 (by simp)
          rw [if_pos (by unfold Region.wanted; simp only []; rw [yielded_of (d := 67) rfl i67]; rfl)]
          rw [eval_get] at i68 i69 i67
          refine leaves_call (f := 18) (args := #[.agg (dcells a (.slice aA1 an1 ac1) (.slice aA2 an2 ac2) (.slice aA3 an3 ac3) (.slice aA4 an4 ac4)).toArray, .agg (ecells p (.slice pB1 pm1 pk1) (.slice pB2 pm2 pk2) (.slice pB3 pm3 pk3)).toArray]) ?_ ((HTr3.out w' hk).mono (by rintro en w'' ⟨rfl, hb⟩; exact ⟨_, rfl, hb, fun d h => by cases h; rfl⟩))
          go_simp
        · intro a' w' hs hk hd
          have i67 : a'.eval (.tmp 67) = .bool false := hd 67 (by simp)
          have i10 : a'.eval (.tmp 10) = .pointer (some ⟨E, 0, none⟩) := hs.keep 10 (by decide)
          rw [if_pos (by unfold Region.wanted; simp only []; rw [yielded_of (d := 67) rfl i67]; rfl)]
          exact leaves_value (run_leaf_load 30 (.tmp 10) rfl E 0 i10 (dcells a (.slice aA1 an1 ac1) (.slice aA2 an2 ac2) (.slice aA3 an3 ac3) (.slice aA4 an4 ac4)) _ (rangeAt_kp EW.out hk) hagg rfl (by kernel_rfl)) (Upd.refl _ _) (fun d h => by cases h; rfl)
        · intro a' w' hs hk hd
          have i67 : a'.eval (.tmp 67) = .bool false := hd 67 (by simp)
          have i12 : a'.eval (.tmp 12) = .pointer (some ⟨P, 0, none⟩) := hs.keep 12 (by decide)
          rw [if_pos (by unfold Region.wanted; simp only []; rw [yielded_of (d := 67) rfl i67]; rfl)]
          exact leaves_value (run_leaf_load 46 (.tmp 12) rfl P 0 i12 (ecells p (.slice pB1 pm1 pk1) (.slice pB2 pm2 pk2) (.slice pB3 pm3 pk3)) _ (rangeAt_kp PW.out hk) hage rfl (by kernel_rfl)) (Upd.refl _ _) (fun d h => by cases h; rfl)
        · intro a' w' hs hk hd
          have i71 : a'.eval (.tmp 71) = .agg (dcells a (.slice aA1 an1 ac1) (.slice aA2 an2 ac2) (.slice aA3 an3 ac3) (.slice aA4 an4 ac4)).toArray := hd 71 (by simp)
          have i72 : a'.eval (.tmp 72) = .agg (ecells p (.slice pB1 pm1 pk1) (.slice pB2 pm2 pk2) (.slice pB3 pm3 pk3)).toArray := hd 72 (by simp)
          have i67 : a'.eval (.tmp 67) = .bool false := hd 67 (by simp)
          rw [if_pos (by unfold Region.wanted; simp only []; rw [yielded_of (d := 67) rfl i67]; rfl)]
          rw [eval_get] at i71 i72 i67
          refine leaves_call (f := 19) (args := #[.agg (dcells a (.slice aA1 an1 ac1) (.slice aA2 an2 ac2) (.slice aA3 an3 ac3) (.slice aA4 an4 ac4)).toArray, .agg (ecells p (.slice pB1 pm1 pk1) (.slice pB2 pm2 pk2) (.slice pB3 pm3 pk3)).toArray]) ?_ ((HRr3.out w' hk).mono (by rintro en w'' ⟨rfl, hb⟩; exact ⟨_, rfl, hb, fun d h => by cases h; rfl⟩))
          go_simp
        · intro a' w' hs hk hd
          have i70 : a'.eval (.tmp 70) = .int .i64 r3 := hd 70 (by simp)
          have i73 : a'.eval (.tmp 73) = .int .i64 r3 := hd 73 (by simp)
          have i67 : a'.eval (.tmp 67) = .bool false := hd 67 (by simp)
          rw [if_pos (by unfold Region.wanted; simp only []; rw [yielded_of (d := 67) rfl i67]; rfl)]
          rw [eval_get] at i70 i73 i67
          refine leaves_value (v := .bool false) (w' := w') ?_ (Upd.refl _ _) (fun d h => by cases h; rfl)
          go_simp
        · intro a' w' hs hk hd
          have i67 : a'.eval (.tmp 67) = .bool false := hd 67 (by simp)
          have i74 : a'.eval (.tmp 74) = .bool false := hd 74 (by simp)
          rw [if_pos (by rfl)]
          rw [eval_get] at i67 i74
          refine leaves_value (v := .bool false) (w' := w') ?_ (Upd.refl _ _) (fun d h => by cases h; rfl)
          go_simp
        · intro a' w' hs hk hd
          have h75 : a'.eval (.tmp 75) = .bool false := hd 33 _ 75 rfl rfl
          have HK9 : Hid (Kp w7 w') := Lib.hid (UM9.out.trans hk)
          obtain ⟨f, hf⟩ := hs.lit
          rw [hf]
          have hf75 : f 75 = .bool false := by rw [hf] at h75; exact h75
          clear hf h75 hs hk hd
          simp only [pickS, Nat.reduceAdd, List.contains_cons, List.contains_nil, Nat.reduceBEq, Bool.or_false, Bool.false_or, Bool.or_true, Bool.true_or, Bool.false_eq_true, if_true, if_false, hf75]
          go_wp2_with fail
          go_roundw
          case rel => exact ⟨i + 1, by go_num, by omega, HK9.out⟩
          all_goals (simp [intOf]; omega)
    · obtain rfl : i = n := by omega
      go_wp2_with fail
      go_ret
      exact ⟨rfl, U1.out.trans (U17.out.trans HU.out)⟩
end Go.Proofs.Ytaejnhgnacgheaa
