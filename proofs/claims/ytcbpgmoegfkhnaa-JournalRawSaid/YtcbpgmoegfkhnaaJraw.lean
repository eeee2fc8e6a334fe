/- JournalRaw returns true, whatever its arguments. -/
import Derived.Test.YtcbpgmoegfkhnaaJlaw
namespace Go.Proofs.Ytcbpgmoegfkhnaa
set_option linter.unusedVariables false
open Go.RowKit

theorem recs_most (c : List UInt8) (e : Nat) (hc : e ≤ c.length) : ∀ (f a : Nat), a ≤ e → (recsL c f a e).all (·.2) = true → lensI ((recsL c f a e).map (·.1)) ≤ 4 * ((e - a : Nat) : Int)
  | 0, a, h1, h3 => by simp [recsL, lensI]; omega
  | f + 1, a, h1, h3 => by
    simp only [recsL] at h3 ⊢
    by_cases hlt : a < e
    · rw [if_pos hlt] at h3 ⊢
      obtain ⟨n, hn⟩ : ∃ n : Nat, valI (readL c a 4) 4 = n := ⟨(valI (readL c a 4) 4).toNat, by have := (valI_four (readL c a 4)).1; omega⟩
      rw [hn, Int.toNat_natCast] at h3 ⊢
      by_cases hb : e < a + 4 + n
      · rw [if_pos hb] at h3
        simp at h3
      · rw [if_neg hb] at h3 ⊢
        have ih := recs_most c e hc f (a + 4 + n) (by omega) (by simpa using h3)
        have hl := readL_len c (a + 4) n (by omega)
        simp only [lensI, List.map_cons, List.sum_cons] at ih ⊢
        rw [hl]
        omega
    · rw [if_neg hlt]
      simp [lensI]
      omega
theorem opened_most {c : List UInt8} {n : Nat} {L : List (List UInt8)} (h : openedL c = some (n, L)) : lensI L ≤ 4 * (n : Int) ∧ (n : Int) ≤ c.length := by
  obtain ⟨h1, h2, h3, h4, h5⟩ := openedL_some h
  rcases Nat.eq_zero_or_pos n with h0 | h0
  · subst h0
    rw [← h5]
    simp [recsL, lensI]
  · have := recs_most c (64 + n) (by omega) n 64 (by omega) h4
    rw [h5] at this
    omega
theorem lens_count : ∀ (L : List (List UInt8)), (L.length : Int) * 16 ≤ lensI L
  | [] => by simp [lensI]
  | x :: L => by
    have := lens_count L
    simp only [lensI, List.map_cons, List.sum_cons, List.length_cons] at this ⊢
    omega

theorem on_open_no {W w : World} {m : List Item} (h : Own W w m) (i : Nat) {b : Nat} {s : DSt} (hi : m[i]? = some (.disk b s)) {n : Nat} (hf : Fit n s) (hn : n ≤ 1500) (ha : s.failing = false) (ho : openedL s.now = none) :
    Calls Try.prog 11 #[.pointer (some ⟨b, 0, none⟩)] w (OpenNo W (m.set i (.disk b (syncedSt s))) 11) := by
  refine (open_any h i hi hf hn).mono fun e w' hp => ?_
  unfold OpenPost at hp
  rw [syncSt_ok ha] at hp
  dsimp only at hp
  have ho2 : openedL (syncedSt s).now = none := ho
  rw [if_pos rfl, ho2] at hp
  exact hp

theorem same_snoc {w : World} {v v2 : Value} {L : List (List UInt8)} {r : List UInt8} (h1 : Rd w v 1 (L ++ [r]).length (ssv (L ++ [r]))) (h2 : Sl w v2 9 1 (L.length + 1) (ssv L ++ [.string ⟨r.toArray⟩])) (hL : L.length ≤ 100) :
    Calls Try.prog 20 #[v, v2] w (SamePost w true) := by
  have h3 : Rd w v2 1 (L ++ [r]).length (ssv (L ++ [r])) := by
    have := h2.rd
    simpa [ssv] using this
  have := rsame_any w v v2 (L ++ [r]) (L ++ [r]) h1 h3 (by simp [maxLen]; omega) (by simp [maxLen]; omega)
  simpa using this

theorem wpList_append_gd {P : Program} {w : World} {o : Oper} {a : Act} {Q : Exit → Act → World → Prop} {ops : Array Oper} {rest : List Oper} (hw : Region.wanted o (yielded ops a.tmps) = true) (s x : Operand) (t : TypeId) (ho : o.op = .call { callee := .builtin .append, args := #[s, x], argTypes := #[t, t] })
    {e size bytes : Nat} {z : Value} (T : SlT P t e size bytes z) {v : Value} {n : Nat} {xs : List Value} (hv : a.eval s = v) (hs : Sl w v e size n xs)
    {y : Value} {m : Nat} {news : List Value} (hy : a.eval x = y) (hx : Rd w y size m news) (h1 : Ones news) (h63 : n + m ≤ maxLen) (hb : (n + m) * bytes ≤ 140737488355328)
    (h : ∀ v' w', Appended w v e size (n + m) (xs ++ news) v' w' → wpList P ops Q rest (a.put o.dst v') w') : wpList P ops Q (o :: rest) a w :=
  wpList_step fun _ hK => by
    rw [if_pos hw]
    exact wp_append_sl s x t ho T hv hs hy hx h1 h63 hb fun v' w' hA => hK _ _ (h v' w' hA)

set_option maxHeartbeats 8000000 in
set_option maxRecDepth 20000 in
theorem raw_true (W : World) (l0 : List UInt8) (hl0 : l0.length ≤ maxLen) (z1 : Int) (hz1 : 0 ≤ z1) (hy1 : z1 < 256) (l2 : List UInt8) (hl2 : l2.length ≤ maxLen) :
    Calls Try.prog 6 #[.string ⟨l0.toArray⟩, .int .u8 z1, .string ⟨l2.toArray⟩] W (Sane W) := by
  obtain ⟨o, ho⟩ : ∃ o : Nat, z1 % 100 = o := ⟨(z1 % 100).toNat, by omega⟩
  have ho1 : o ≤ 99 := by omega
  have ho2 : z1.tmod 100 = o := by rw [Int.tmod_eq_emod_of_nonneg hz1]; exact ho
  have ho3 : IntKind.u8.wrap (o : Int) = o := by apply IntWalk.u8_in <;> omega
  obtain ⟨t, ht⟩ : ∃ t, t = l0.take 300 := ⟨_, rfl⟩
  have ht2 : t.length ≤ 300 := by rw [ht]; simp; omega
  have E : Hid ((⟨l0.toArray⟩ : ByteArray).extract 0 (if (300 : Int) < (l0.length : Int) then (300 : Int) else (l0.length : Int)).toNat = ⟨t.toArray⟩) := Lib.hid (by
    rw [ht, short_take]
    split
    · rfl
    · rw [Int.toNat_natCast, List.take_of_length_le (Nat.le_refl _), List.take_of_length_le (by omega)])
  have hw1 := writeSt_ok (s := newSt) (l := t) o (by omega) rfl
  have hf1 : Fit 1 (wroteSt newSt o t) := Fit.new.wrote (by omega) (by omega)
  have hn1 : (wroteSt newSt o t).now.length ≤ 399 := by simp only [wroteSt, newSt, putL_length]; simp; omega
  obtain ⟨s1, hs1⟩ : ∃ s1, s1 = wroteSt newSt o t := ⟨_, rfl⟩
  have hd1 : s1.failing = false := by rw [hs1]; rfl
  rw [← hs1] at hw1 hf1 hn1
  have hw2 := syncSt_ok hd1
  have hf2 := hf1.synced
  have hl0' := hl0
  unfold maxLen at hl0'
  have T2 := Lib.hid ht2
  have W1 := Lib.hid hw1
  have W2 := Lib.hid hw2
  have F1 := Lib.hid hf1
  have F2 := Lib.hid hf2
  have D1 := Lib.hid hd1
  have L2 := Lib.hid hl2
  have H0 : Hid (Own W W []) := Lib.hid (Own.start W)
  clear ht ht2 hw1 hf1 hs1 hw2 hf2 hl2 hl0
  cases hop : openedL s1.now with
  | none =>
    have OP : Hid (openedL (syncedSt s1).now = none) := Lib.hid hop
    clear hop hn1 hd1
    go_enter Try.func6, Try.ntmps6
    go_wp2_with (first
      | (go_at_call 9; go_must (refine (sanity_any _).mono ?_; rintro e w1 ⟨rfl, hu⟩; have H1 := Lib.hid (H0.out.far hu); clear hu))
      | (go_at_call 10; show Calls _ _ _ w1 _; go_must (refine (own_new H1.out).mono ?_; rintro e w2 ⟨b, rfl, h⟩; have H2 : Hid (Own W w2 ([.disk b newSt])) := Lib.hid h; clear h))
      | (go_at_call 21; go_must (rw [E.out]; have hc := own_write H2.out 0 rfl Fit.new (by decide) o t (by have := T2.out; omega); rw [W1.out] at hc; refine hc.mono ?_; rintro e w3 ⟨rfl, h⟩; have H3 : Hid (Own W w3 [.disk b s1]) := Lib.hid h; clear h hc))
      | (go_at_call 22; go_must (have hc := own_sync H3.out 0 rfl F1.out (by decide); rw [W2.out] at hc; refine hc.mono ?_; rintro e w4 ⟨rfl, h⟩; have H4 : Hid (Own W w4 [.disk b (syncedSt s1)]) := Lib.hid h; clear h hc))
      | (go_at_call 11; go_must (refine (on_open_no H4.out 0 rfl F2.out (by decide) D1.out OP.out).mono ?_; rintro e w5 ⟨rfl, h⟩; have H5 := Lib.hid h; clear h)))
    all_goals go_ret
    all_goals exact ⟨rfl, H5.out.upd⟩
  | some pL =>
    obtain ⟨p, L⟩ := pL
    have hon : DOn (syncedSt s1) p L 2 := ⟨hop, hd1, F2.out⟩
    obtain ⟨hm1, hm2⟩ := opened_most hop
    have hm3 := lens_count L
    obtain ⟨r, hr⟩ : ∃ r, r = l2.take 200 := ⟨_, rfl⟩
    have hr2 : r.length ≤ 200 := by rw [hr]; exact short_len l2
    have HR := Lib.hid (And.intro hr hr2)
    have ON := Lib.hid hon
    have LB : Hid (lensI L ≤ 1600 ∧ L.length ≤ 100) := Lib.hid ⟨by omega, by omega⟩
    clear hop hn1 hd1 hon hm1 hm2 hm3 hr hr2
    go_enter Try.func6, Try.ntmps6
    go_wp2_with (first
      | (go_at_call 9; go_must (refine (sanity_any _).mono ?_; rintro e w1 ⟨rfl, hu⟩; have H1 := Lib.hid (H0.out.far hu); clear hu))
      | (go_at_call 10; show Calls _ _ _ w1 _; go_must (refine (own_new H1.out).mono ?_; rintro e w2 ⟨b, rfl, h⟩; have H2 : Hid (Own W w2 ([.disk b newSt])) := Lib.hid h; clear h))
      | (go_at_call 21; go_must (rw [E.out]; have hc := own_write H2.out 0 rfl Fit.new (by decide) o t (by have := T2.out; omega); rw [W1.out] at hc; refine hc.mono ?_; rintro e w3 ⟨rfl, h⟩; have H3 : Hid (Own W w3 [.disk b s1]) := Lib.hid h; clear h hc))
      | (go_at_call 22; go_must (have hc := own_sync H3.out 0 rfl F1.out (by decide); rw [W2.out] at hc; refine hc.mono ?_; rintro e w4 ⟨rfl, h⟩; have H4 : Hid (Own W w4 [.disk b (syncedSt s1)]) := Lib.hid h; clear h hc))
      | (go_at_call 11; show Calls _ _ _ w4 _; go_must (refine (on_open H4.out 0 rfl ON.out (by decide)).mono ?_; rintro e w5 ⟨bj, A1, c1, rfl, h⟩; have H5 : Hid (Own W w5 [.row bj 61 (jS b (jOpen p L)), .sl (.slice A1 L.length c1) 9 1 (ssv L), .disk b (syncedSt (syncedSt s1))]) := Lib.hid h; clear h))
      | (go_at_call 16; go_must (refine (on_many H5.out ON.out.on).mono ?_; rintro e w' ⟨rfl, rfl⟩))
      | (go_at_call 14; show Calls _ _ _ w5 _; go_must (have hc := short_any w5 l2 L2.out; rw [← HR.out.1] at hc; refine hc.mono ?_; clear hc; rintro e w' ⟨rfl, rfl⟩))
      | (go_at_call 13; go_must (refine (on_append H5.out 1 rfl ON.out.on (by decide) r (by have := LB.out.2; omega) (by have := LB.out.1; have := HR.out.2; omega)).mono ?_; rintro e w6 ⟨s6, rfl, h, hj⟩; have H6 : Hid (Own W w6 [.row bj 61 (jS b (jNext (jOpen p L) r)), .sl (.slice A1 L.length c1) 9 1 (ssv L), .disk b s6]) := Lib.hid h; have J6 := Lib.hid hj; clear h hj))
      | (go_at_call 17; go_must (refine (own_crash_none H6.out 2 rfl J6.out.fit (by decide)).mono ?_; rintro e w7 ⟨c, rfl, h⟩; have H7 : Hid (Own W w7 [.disk c (crashedSt s6 []), .sl (.slice A1 L.length c1) 9 1 (ssv L)]) := Lib.hid (h.drop1.erase 2); clear h))
      | (go_at_call 11; show Calls _ _ _ w7 _; go_must (refine (on_open H7.out 0 rfl (J6.out.crash []) (by decide)).mono ?_; rintro e w8 ⟨bk, A2, c2, rfl, h⟩; rw [show (L ++ [r]).length = L.length + 1 from (by simp)] at h ⊢; have H8 : Hid (Own W w8 [.sl (.slice A2 (L.length + 1) c2) 9 1 (ssv (L ++ [r])), .sl (.slice A1 L.length c1) 9 1 (ssv L)]) := Lib.hid (h.tail.drop1); clear h))
      | (show wpList _ _ _ (⟨some 83, .call _, _, _, _, _⟩ :: _) _ _; (refine wpList_append_gd rfl (.tmp 81) (.tmp 82) _ rfl T_strs rfl (Sl.empty_lit w8 9 w8.heap.size rfl) rfl (sl_rd (H8.out.far ((Upd.refl _ _).alloc _)) 1 rfl) (ssv_ones L) (by have := LB.out.2; unfold maxLen; omega) (by have := LB.out.2; omega) ?_); intro v1 w9 hA; have hm := maybe_own ((Upd.refl (fun _ => False) w8).alloc _) (Nat.le_refl _) hA; simp only [Nat.zero_add, List.nil_append] at hA; have HS1 := Lib.hid (And.intro hA.sl hm); clear hm hA)
      | (go_at_call 14; show Calls _ _ _ w9 _; go_must (have hc := short_any w9 l2 L2.out; rw [← HR.out.1] at hc; refine hc.mono ?_; clear hc; rintro e w' ⟨rfl, rfl⟩))
      | (show wpList _ _ _ (⟨some 87, .call _, _, _, _, _⟩ :: _) _ _; (refine wpList_append_gd rfl (.tmp 83) (.tmp 86) _ rfl T_strs rfl (HS1.out.1.far ((Upd.refl _ _).alloc _)) rfl (rd_one rfl) one_ones (by have := LB.out.2; unfold maxLen; omega) (by have := LB.out.2; omega) ?_); intro v2 w10 hA; have HS2 := Lib.hid (And.intro hA.sl (H8.out.far ((HS1.out.2.1.alloc _).trans hA.upd (fun k hk e => by have := HS1.out.2.2 k e; omega)))); clear hA)
      | (go_at_call 20; go_must (refine (same_snoc (sl_rd HS2.out.2 0 rfl) HS2.out.1 LB.out.2).mono ?_; rintro e w11 ⟨rfl, hu⟩; have H11 := Lib.hid (HS2.out.2.far hu); clear hu)))
    all_goals go_ret
    all_goals exact ⟨rfl, H11.out.upd⟩
end Go.Proofs.Ytcbpgmoegfkhnaa
