/- the reference's journal: Opens, where the record that was being appended is there. -/
import Derived.Test.YtcbpgmoegfkhnaaJopens
import Derived.Deep.RegionHeld3
namespace Go.Proofs.Ytcbpgmoegfkhnaa
set_option linter.unusedVariables false
open Go.RowKit

theorem maybe_keep {w2 w' : World} {b gm o : Nat} {x y z : Value} (h0 : w2.cell? ⟨b, 0, none⟩ = some x) (h1 : w2.cell? ⟨b, 1, none⟩ = some y) (h2 : w2.cell? ⟨gm, o, none⟩ = some z) (hu : Upd (fun _ => False) w2 w') :
    (w'.cell? ⟨b, 0, none⟩ = some x ∧ w'.cell? ⟨b, 1, none⟩ = some y ∧ w'.cell? ⟨gm, o, none⟩ = some z) ∧ Upd (fun _ => False) w2 w' :=
  ⟨⟨(hu.cell (World.block_lt_of_cell? _ _ h0) id).trans h0, (hu.cell (World.block_lt_of_cell? _ _ h1) id).trans h1, (hu.cell (World.block_lt_of_cell? _ _ h2) id).trans h2⟩, hu⟩
theorem one_ones {r : List UInt8} : Ones [Value.string ⟨r.toArray⟩] := by intro u hu; simp at hu; subst hu; rfl
theorem rd_one {w : World} {r : List UInt8} {g : Nat} (hg : g = w.heap.size) : Rd (w.alloc (.cells #[.string ⟨r.toArray⟩] 9)) (.slice (some ⟨g, 0, none⟩) 1 1) 1 1 [.string ⟨r.toArray⟩] := by
  subst hg
  have := Rd.of_new (cs := #[.string ⟨r.toArray⟩]) (n := 1) (size := 1) (Row.new w 9 #[.string ⟨r.toArray⟩]) (by simp)
  simpa using this
theorem one_b {w2 w5 : World} {r : List UInt8} {n : Nat} {xs : List Value} {v5 : Value} (hA : Appended (((w2.alloc (.cells #[] 9)).alloc (.cells #[.string ⟨r.toArray⟩] 9)).drew) (.slice (some ⟨w2.heap.size, 0, none⟩) 0 0) 9 1 n xs v5 w5) :
    Rd w5 (.slice (some ⟨w2.heap.size + 1, 0, none⟩) 1 1) 1 1 [.string ⟨r.toArray⟩] := by
  have h : Rd (((w2.alloc (.cells #[] 9)).alloc (.cells #[.string ⟨r.toArray⟩] 9)).drew) (.slice (some ⟨w2.heap.size + 1, 0, none⟩) 1 1) 1 1 [.string ⟨r.toArray⟩] := rd_one (by simp)
  exact h.upd hA.upd (fun k hk => by simp [Value.ownBlock] at hk ⊢; omega)
theorem one_c {w2 w5 : World} {r : List UInt8} {n : Nat} {xs : List Value} {v5 : Value} (hA : Appended (((w2.alloc (.cells #[.string ⟨r.toArray⟩] 9)).alloc (.cells #[] 9)).drew) (.slice (some ⟨w2.heap.size + 1, 0, none⟩) 0 0) 9 1 n xs v5 w5) :
    Rd w5 (.slice (some ⟨w2.heap.size, 0, none⟩) 1 1) 1 1 [.string ⟨r.toArray⟩] := by
  have h0 : Rd (w2.alloc (.cells #[.string ⟨r.toArray⟩] 9)) (.slice (some ⟨w2.heap.size, 0, none⟩) 1 1) 1 1 [.string ⟨r.toArray⟩] := rd_one rfl
  have h := h0.upd (((Upd.refl (fun _ => False) _).alloc (.cells #[] 9)).drew) (fun k hk => by simp [Value.ownBlock] at hk ⊢; omega)
  exact h.upd hA.upd (fun k hk => by simp [Value.ownBlock] at hk ⊢; omega)
theorem maybe_own {X w5 : World} {v5 : Value} {n : Nat} {xs : List Value} {w2 : World} {g : Nat} (hu : Upd (fun _ => False) w2 X) (hg : w2.heap.size ≤ g) (hA : Appended X (.slice (some ⟨g, 0, none⟩) 0 0) 9 1 n xs v5 w5) : Upd (fun _ => False) w2 w5 ∧ ∀ k, v5.ownBlock = some k → w2.heap.size ≤ k := by
  refine ⟨hu.trans hA.upd (fun k hk e => by simp [Value.ownBlock] at e; omega), fun k hk => ?_⟩
  have hz := hu.size
  rcases hA.at_ with e | e
  · rw [e.1] at hk; simp [Value.ownBlock] at hk; omega
  · rw [e.1] at hk; simp at hk; omega
class MaybeW (w2 X : World) (g : Nat) : Prop where
  hu : Upd (fun _ => False) w2 X
  hg : w2.heap.size ≤ g
theorem maybe_one {X w5 : World} {v5 : Value} {n : Nat} {xs : List Value} {w2 : World} {g : Nat} [h : MaybeW w2 X g] (hA : Appended X (.slice (some ⟨g, 0, none⟩) 0 0) 9 1 n xs v5 w5) : Upd (fun _ => False) w2 w5 := (maybe_own h.hu h.hg hA).1
instance (w2 : World) (o : Obj) : MaybeW w2 (w2.alloc o).drew w2.heap.size := ⟨((Upd.refl _ _).alloc _).drew, Nat.le_refl _⟩
instance (w2 : World) (o o' : Obj) : MaybeW w2 ((w2.alloc o).alloc o').drew w2.heap.size := ⟨(((Upd.refl _ _).alloc _).alloc _).drew, Nat.le_refl _⟩
instance (w2 : World) (o o' : Obj) : MaybeW w2 ((w2.alloc o).alloc o').drew (w2.heap.size + 1) := ⟨(((Upd.refl _ _).alloc _).alloc _).drew, by omega⟩
theorem maybe_two {w2 X w5 Y w7 : World} {v5 v7 : Value} {n n7 : Nat} {xs ys : List Value} {g : Nat} [h : MaybeW w2 X g] (hu : Upd (fun _ => False) w2 w5) (hA : Appended X (.slice (some ⟨g, 0, none⟩) 0 0) 9 1 n xs v5 w5) (hY : Upd (fun _ => False) w5 Y) (hA7 : Appended Y v5 9 1 n7 ys v7 w7) :
    Upd (fun _ => False) w2 w7 :=
  (hu.trans hY (fun _ _ h => h)).trans hA7.upd (fun k hk e => by have := (maybe_own h.hu h.hg hA).2 k e; omega)

set_option maxHeartbeats 4000000 in
set_option maxRecDepth 20000 in
theorem opens_maybe {W w : World} {m : List Item} (h : Own W w m) (i i2 : Nat) (hne : i ≠ i2) {b : Nat} {j : RjS} (hi : m[i]? = some (.rjS b j)) {vl : Value} {l : List (List UInt8)} (hi2 : m[i2]? = some (.sl vl 9 1 (ssv l))) (hl : l.length ≤ 1000000000) (hlb : ∀ r, r ∈ l → r.length ≤ 16777216) (hjl : j.l.length ≤ 1000000000) (hjm : j.m.length ≤ 1000000000) (hyp : l ≠ j.l ∧ j.broken = true ∧ ∃ M0 r, j.m = M0 ++ [r] ∧ l = j.l ++ [r]) :
    Calls Try.prog 18 #[.pointer (some ⟨b, 0, none⟩), vl] w (OpensPost W m i b l) := by
  obtain ⟨F, hJ0, hF, hgo⟩ := h.take i hi
  obtain ⟨vL, vM, hJ⟩ := hJ0
  obtain ⟨L, M, br, by_⟩ := j
  dsimp only at hjl hjm hJ hyp
  obtain ⟨n2, hrd, hvb⟩ := sl_read h i2 hi2
  obtain rfl : n2 = l.length := by have := hrd.1; simp [ssv] at this; omega
  have hrd' := hrd
  obtain ⟨hlen, Al, cl, rfl, hcl, hal0, hall⟩ := hrd'
  have hi3 : ∀ x, (m.set i x)[i2]? = some (.sl (.slice Al l.length cl) 9 1 (ssv l)) := fun x => by rw [List.getElem?_set_ne hne]; exact hi2
  have hi4 : ∀ x, (m.set i x)[i]? = some x := fun x => List.getElem?_set_self (List.getElem?_eq_some_iff.1 hi).1
  have HI3 := Lib.hid hi3
  have HI4 := Lib.hid hi4
  have HRD := Lib.hid hrd
  have HGO := Lib.hid hgo
  have HJ := Lib.hid hJ
  have H := Lib.hid h
  have c0 : w.cell? ⟨b, 0, none⟩ = some vL := hJ.row.cell 0
  have c1 : w.cell? ⟨b, 1, none⟩ = some vM := hJ.row.cell 1
  have c2 : w.cell? ⟨b, 2, none⟩ = some (.bool br) := hJ.row.cell 2
  obtain ⟨hneL, hbt, M0, r, hM, hlr⟩ := hyp
  subst hbt
  obtain ⟨AL, cL, rfl, _⟩ := hJ.l.form
  obtain ⟨q, hq⟩ : ∃ q, M.length = q + 1 := ⟨M0.length, by rw [hM]; simp⟩
  have hjm2 := hJ.m
  rw [hq] at hjm2
  obtain ⟨AM, cM, rfl, hcM⟩ := hjm2.form
  obtain ⟨gm, om, rfl⟩ := Sl.some_ hjm2 (by omega)
  have HE : Hid (decide (l = L) = false) := Lib.hid (by simp [hneL])
  have HQ : Hid ((ssv M)[q]? = some (.string ⟨r.toArray⟩)) := Lib.hid (by
    have hq5 : q = M0.length := by
      rw [hM] at hq
      simp at hq
      omega
    rw [ssv_get, hM, hq5]
    simp)
  have HM := Lib.hid hq
  have HLR := Lib.hid hlr
  have hq2 : q ≤ 1000000000 := by omega
  have hq0 : (0 : Int) ≤ (q : Int) := by omega
  have hcM2 : (q : Int) < cM := by omega
  have hq3 : (q : Int) < (q : Int) + 1 := by omega
  have hwq := IntWalk.i64_in (q : Int) (by omega)
  have hwq2 : IntKind.i64.wrap ((q : Int) + 1 - 1) = q := by rw [show ((q : Int) + 1 - 1) = q by omega]; exact hwq
  have HE2 : Hid (decide (l = L ++ [r]) = true) := Lib.hid (by simp [hlr])
  clear hneL hM hlr hq hjm2
  clear hrd hall hi3 hi4 hgo hJ h
  go_enter Try.func18, Try.ntmps18
  go_wp2_with (first
    | (go_at_call 20; go_must (have hc := rsame_any _ _ _ l L HRD.out HJ.out.l.rd (by unfold maxLen; omega) (by unfold maxLen; omega); rw [HE.out] at hc; refine hc.mono ?_; clear hc; rintro e w2 ⟨rfl, hu2⟩; have h2 := HJ.out.upd hu2 (fun _ _ => id) (fun _ h => h); have d0 : w2.cell? ⟨b, 0, none⟩ = some (.slice AL L.length cL) := h2.row.cell 0; have d1 : w2.cell? ⟨b, 1, none⟩ = some (.slice (some ⟨gm, om, none⟩) (q + 1) cM) := h2.row.cell 1; have d2 : w2.cell? ⟨b, 2, none⟩ = some (.bool true) := h2.row.cell 2; have d3 : w2.cell? ⟨gm, om + q, none⟩ = some (.string ⟨r.toArray⟩) := h2.m.rd.cellAt' q _ HQ.out; have HU2 := Lib.hid hu2; have HJ2 := Lib.hid h2; clear h2 hu2)))
  go_region_held3 (fun w' => (w'.cell? ⟨b, 0, none⟩ = some (.slice AL L.length cL) ∧ w'.cell? ⟨b, 1, none⟩ = some (.slice (some ⟨gm, om, none⟩) (q + 1) cM) ∧ w'.cell? ⟨gm, om + q, none⟩ = some (.string ⟨r.toArray⟩)) ∧ Upd (fun _ => False) w2 w')
    (first | exact maybe_keep d0 d1 d3 ((Upd.refl _ _).drew) | exact maybe_keep d0 d1 d3 (((Upd.refl _ _).alloc _).drew) | exact maybe_keep d0 d1 d3 ((((Upd.refl _ _).alloc _).alloc _).drew) | exact maybe_keep d0 d1 d3 hu5 | exact maybe_keep d0 d1 d3 (hu5.alloc _) | exact maybe_keep d0 d1 d3 hu7 | exact maybe_keep d0 d1 d3 hu8)
    ((first
      | (show (if Region.wanted ⟨some 35, _, _, _, _, _⟩ _ = true then _ else _); go_must (refine step_of rfl (wp_append_sl (.tmp 30) (.tmp 34) _ rfl T_strs (v := .slice (some ⟨_, 0, none⟩) 0 0) (n := 0) (xs := []) (y := .slice AL L.length cL) rfl ?_ rfl (m := L.length) (news := ssv L) ?_ (ssv_ones L) ?_ ?_ ?_); (first | exact (Sl.empty_lit w2 _ _ rfl).far ((Upd.refl _ _).drew) | exact (Sl.empty_lit w2 _ _ rfl).far (((Upd.refl _ _).alloc _).drew) | exact (Sl.empty_lit (w2.alloc (.cells #[.string ⟨r.toArray⟩] 9)) _ (w2.heap.size + 1) (World.size_alloc _ _).symm).far ((Upd.refl _ _).drew)); (first | exact (HJ2.out.l.far (((Upd.refl _ _).alloc _).drew)).rd | exact (HJ2.out.l.far ((((Upd.refl _ _).alloc _).alloc _).drew)).rd); (unfold maxLen; omega); omega; intro v5 w5 hA5; simp only [Nat.zero_add, List.nil_append] at hA5; have hu5 : Upd (fun _ => False) w2 w5 := maybe_one hA5; (try have hr8 := one_b (r := r) hA5); (try have hr8 := one_c (r := r) hA5); obtain ⟨A5, k5, rfl, _⟩ := hA5.sl.form))
      | (show (if Region.wanted ⟨some 49, _, _, _, _, _⟩ _ = true then _ else _); go_must (refine step_of rfl (wp_append_sl (.tmp 35) (.tmp 48) _ rfl T_strs (v := .slice A5 L.length k5) (n := L.length) (xs := ssv L) (y := .slice (some ⟨_, 0, none⟩) 1 1) rfl ?_ rfl (m := 1) (news := [.string ⟨r.toArray⟩]) ?_ one_ones ?_ ?_ ?_); (first | exact hA5.sl | exact hA5.sl.far ((Upd.refl _ _).alloc _)); (first | exact hr8 | exact rd_one rfl); (unfold maxLen; omega); omega; intro v7 w7 hA7; have hu7 : Upd (fun _ => False) w2 w7 := (by first | exact maybe_two hu5 hA5 (Upd.refl _ _) hA7 | exact maybe_two hu5 hA5 ((Upd.refl _ _).alloc _) hA7); have hs7 := hA7.sl; obtain ⟨A7, k7, rfl, _⟩ := hA7.sl.form))
      | (go_at_call 20; go_must (have hc := rsame_any _ _ _ l (L ++ [r]) (HRD.out.upd (HU2.out.trans hu7 (fun _ _ h => h)) (fun k hk => ⟨hvb k hk, id⟩)) (by have := hs7.rd; simpa [ssv] using this) (by unfold maxLen; omega) (by unfold maxLen; simp; omega); rw [HE2.out] at hc; refine hc.mono ?_; clear hc; rintro e w6 ⟨rfl, hu⟩; have hu8 : Upd (fun _ => False) w2 w6 := hu7.trans hu (fun _ _ h => h); have HU6 := Lib.hid (HU2.out.trans hu8 (fun _ _ h => h)); have HJ6 := Lib.hid (HJ2.out.upd hu8 (fun _ _ => id) (fun _ h => h)); have d2 : w6.cell? ⟨b, 2, none⟩ = some (.bool true) := HJ6.out.row.cell 2))))
  all_goals
    go_wp2_with (first
      | (show wpList _ _ _ (⟨some 54, _, _, _, _, _⟩ :: _) _ _; go_must (refine wpList_append_sl rfl (.tmp 52) (.tmp 53) _ rfl T_strs rfl (Sl.empty_lit w6 9 w6.heap.size rfl) rfl ((HRD.out.upd (HU6.out.alloc (.cells #[] 9)) (fun k hk => ⟨hvb k hk, id⟩))) (ssv_ones l) (by unfold maxLen; omega) (by omega) ?_); intro v1 w3 hA; simp only [Nat.zero_add, List.nil_append] at hA; obtain ⟨A1, k1, rfl, _⟩ := hA.sl.form; have hz := opens_stored HJ6.out rfl hA; have g0 := hz.1.cell 0; have g1 := hz.1.cell 1; have g2 := hz.1.cell 2; have g3 := hz.1.cell 3; have f0 := hz.1.frozen (j := 0) (by simp); have f1 := hz.1.frozen (j := 1) (by simp); have f2 := hz.1.frozen (j := 2) (by simp); have f3 := hz.1.frozen (j := 3) (by simp); have HO := Lib.hid (opens_own HGO.out HU6.out hz.2); clear hz hA))
    go_loopw [6] (fun v wr => ∃ k : Nat, k ≤ l.length ∧ v = .int .i64 k ∧ Own W wr (m.set i (.rjS b ⟨l, [], false, lensI (l.take k)⟩))) (fun v _ => l.length - (intOf v).toNat)
    case atStart => exact ⟨0, Nat.zero_le _, rfl, HO.out⟩
    case round =>
      obtain ⟨k, hk, rfl, hO⟩ := hrel
      have HR := Lib.hid hO
      clear hO HO
      by_cases hlt : k < l.length
      · obtain ⟨vL2, vM2, hr2⟩ := rj_row HR.out i (HI4.out _)
        obtain ⟨n3, hrd3, hvb3⟩ := sl_read HR.out i2 (HI3.out _)
        obtain ⟨gl, ol, rfl⟩ : ∃ g o, Al = some ⟨g, o, none⟩ := by
          cases Al with
          | none => have := hal0 rfl; omega
          | some ad => exact ⟨ad.block, ad.off, by
              obtain ⟨_, _, _, hv, _, _, hc⟩ := hrd3
              cases hv
              have := (hc ad rfl).1
              cases ad
              simp_all⟩
        have e1 := hrd3.cellAt' k (.string ⟨l[k].toArray⟩) (by simp [ssv, hlt])
        obtain ⟨S0, hS0⟩ : ∃ S0, S0 = lensI (l.take k) := ⟨_, rfl⟩
        have hsb := lensI_le (l.take k) 16777216 (fun r hr => hlb r (List.mem_of_mem_take hr))
        rw [← hS0] at hsb
        have hlk : (l.take k).length ≤ k := List.length_take_le _ _
        have hS1 : 0 ≤ S0 := hsb.1
        have hS2 : S0 ≤ 100000000000000000 := by
          have h2 : (((l.take k).length : Nat) : Int) * (((16777216 : Nat) : Int) + 16) ≤ 1000000000 * (((16777216 : Nat) : Int) + 16) := Int.mul_le_mul_of_nonneg_right (by omega) (by omega)
          have := hsb.2
          omega
        have e2 : wr.cell? ⟨b, 3, none⟩ = some (.int .i64 S0) := by rw [hS0]; exact hr2.cell 3
        have e3 := hr2.frozen (j := 3) (by simp)
        have hrl := hlb _ (List.getElem_mem hlt)
        obtain ⟨x, hx⟩ : ∃ x, x = l[k] := ⟨_, rfl⟩
        rw [← hx] at e1 hrl
        have hxl : (x.length : Int) ≤ 16777216 := by omega
        have hk0 : (0 : Int) ≤ k := by omega
        have hk1 : (k : Int) < l.length := by omega
        have HX := Lib.hid hx
        have HS0 := Lib.hid hS0
        clear hr2 hrd3 hvb3 hsb hlk hx hS0 hrl
        go_wp2
        go_region
        all_goals go_wp2
        all_goals go_roundw
        case rel => exact ⟨k + 1, by omega, by go_num, by
          have h5 := rj_bytes HR.out i (HI4.out _) (S0 + ((x.length : Int)) + 16)
          rw [List.set_set] at h5
          rw [lensI_take l hlt, ← HS0.out, ← HX.out, ← Int.add_assoc]
          exact h5.drew⟩
        case measure => simp [intOf]; omega
      · obtain rfl : k = l.length := by omega
        go_wp2
        go_ret
        exact ⟨rfl, by have := HR.out; rwa [List.take_length] at this⟩


end Go.Proofs.Ytcbpgmoegfkhnaa
