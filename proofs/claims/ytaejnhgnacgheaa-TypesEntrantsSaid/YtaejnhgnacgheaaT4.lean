/- types: apply at three element types, and its closures; the closures of the conditions (printed by gen-tapply.py). -/
import Derived.Test.YtaejnhgnacgheaaT3
namespace Go.Proofs.Ytaejnhgnacgheaa
set_option linter.unusedVariables false
set_option linter.unusedSimpArgs false
open Go.RowKit

theorem T_ints : SlT Try.prog 22 3 1 8 (.int .i64 0) := SlT.of Try.underlying22 (by kernel_rfl) rfl
theorem T_strs : SlT Try.prog 44 9 1 16 (.string ⟨#[]⟩) := SlT.of Try.underlying44 (by kernel_rfl) rfl
/-- a new list -/
def NewL {α : Type} (k : Nat) (enc : α → List Value) (L : List α) (w : World) (e : Ending) (w' : World) : Prop := ∃ v, e = .returned v ∧ Lst k enc w' v L ∧ Kp w w'
/-- behind the append of a round -/
theorem app_end {w wr w0 w1 : World} {A A1 : Option Addr} {c c1 k e : Nat} {xs : List Value} {y : Value} (hb : ∀ b, (Value.slice A k c).ownBlock = some b → w.heap.size ≤ b) (hu : Kp w wr) (h0 : Kp wr w0)
    (hA : Appended w0 (.slice A k c) e 1 (k + 1) (xs ++ [y]) (.slice A1 (k + 1) c1) w1) : (∀ b, (Value.slice A1 (k + 1) c1).ownBlock = some b → w.heap.size ≤ b) ∧ Kp w w1 := by
  have h2 := hu.trans h0
  refine ⟨fun b hb1 => ?_, Upd.trans h2 hA.upd (fun k hk e => by have := hb k e; omega)⟩
  rcases hA.at_ with h | h
  · exact hb b (by rw [← h.1]; exact hb1)
  · have := h.1.symm.trans hb1
    cases this
    exact h2.size

theorem getT_any (W : World) (x : Int × Int) : Calls Try.prog 81 #[.agg #[.int .i64 x.1, .int .i64 x.2]] W (fun e W' => e = .returned (.int .i64 (x.1)) ∧ Kp W W') := by
  go_enter Try.func81, Try.ntmps81
  go_wp2
  go_ret
  exact ⟨rfl, (Upd.refl _ W).alloc _⟩
set_option maxHeartbeats 1000000 in
theorem applyT_any (w : World) (v : Value) (L : List (Int × Int)) (h : Lst 2 tierE w v L) (hL : L.length ≤ 1000000000) : Calls Try.prog 80 #[v, .func (.func 81) #[] #[]] w (NewL 1 numE (L.map (·.1)) w) := by
  have eg : ∀ args w, (callFunc 81 args).run Try.prog w = .ok (.enter 81 args) w := Go.Proofs.enters_of Try.func81 (by kernel_rfl) rfl
  obtain ⟨A, c, rfl, hA⟩ := h
  have H := Lib.hid hA
  obtain ⟨n, hn⟩ : ∃ n, n = L.length := ⟨_, rfl⟩
  rw [← hn] at hL ⊢
  have HN := Lib.hid hn
  clear hA hn
  go_enter Try.func80, Try.ntmps80
  go_wp2
  go_loopw [5, 7, 10] (fun v5 _ v wr => ∃ (k : Nat) (A1 : Option Addr) (c1 : Nat), k ≤ n ∧ v = .int .i64 k ∧ v5 = .slice A1 k c1 ∧ Sl wr (.slice A1 k c1) 3 1 k ((L.take k).map fun x => .int .i64 (x.1)) ∧ (∀ b, (Value.slice A1 k c1).ownBlock = some b → w.heap.size ≤ b) ∧ Kp w wr) (fun _ _ v _ => n - (intOf v).toNat)
  case atStart => exact ⟨0, none, 0, Nat.zero_le _, rfl, rfl, by simpa using Sl.nil_ w _ 1, by simp [Value.ownBlock], Upd.refl _ _⟩
  case round =>
    obtain ⟨k, A1, c1, hk, rfl, rfl, ht, hb, hu⟩ := hrel
    have HT := Lib.hid ht
    have HBB := Lib.hid hb
    have HU := Lib.hid hu
    clear ht hu hb
    by_cases hlt : k < n
    · have hkl : k < L.length := by have := HN.out; omega
      obtain ⟨gA, oA, rfl, hc0, hc1⟩ := (H.out.upd HU.out).at2 hkl
      obtain ⟨x, hx⟩ : ∃ x, x = L[k] := ⟨_, rfl⟩
      rw [← hx] at hc0
      rw [← hx] at hc1
      have HX := Lib.hid hx
      clear hx
      have hk0 : (0 : Int) ≤ k := by omega
      have hk1 : (k : Int) < n := by omega
      have hnm : k + 1 ≤ maxLen := by unfold maxLen; omega
      have hby : (k + 1) * 16 ≤ 140737488355328 ∧ (k + 1) * 8 ≤ 140737488355328 := by omega
      have HNM := Lib.hid hnm
      have HBY := Lib.hid hby
      clear hnm hby
      go_wp2_with (first
        | (show Calls _ _ _ (wr.alloc (.cells #[.int .i64 x.1, .int .i64 x.2] 63)) _; refine (getT_any _ x).mono ?_; rintro e w2 ⟨rfl, hb2⟩; have HB2 : Hid (Kp wr w2) := Lib.hid (Kp.trans ((Upd.refl _ wr).alloc _) hb2); clear hb2)
        | (show wpList _ _ _ (⟨some 19, _, _, _, _, _⟩ :: _) _ _; go_must (refine wpList_append_sl rfl (.tmp 14) (.tmp 18) _ rfl T_ints rfl (HT.out.far (HB2.out.alloc _)) (m := 1) (news := [.int .i64 (x.1)]) rfl (Rd.of_new (cs := #[.int .i64 (x.1)]) (Row.new_at _ _ _ _ rfl) rfl) (by intro u hu; simp at hu; subst hu; rfl) HNM.out (by have := HBY.out; omega) ?_); intro v5 w3 hA; obtain ⟨A5, c5, rfl, _⟩ := hA.sl.form; have HA := Lib.hid hA; have HE := Lib.hid (app_end HBB.out HU.out (HB2.out.alloc _) hA); clear hA))
      go_roundw
      case rel =>
        refine ⟨k + 1, A5, c5, by omega, by go_num, rfl, ?_, HE.out.1, HE.out.2⟩
        rw [List.take_succ_eq_append_getElem hkl, List.map_append, ← HX.out]
        exact HA.out.sl
      case measure => simp [intOf]; omega
    · have hkn : k = n := by omega
      subst hkn
      go_wp2
      go_ret
      refine ⟨_, rfl, ?_, HU.out⟩
      have hs := HT.out
      rw [List.take_of_length_le (by rw [← HN.out]; exact Nat.le_refl _)] at hs
      refine Sl.lst (e := 3) (fun _ => rfl) ?_
      rw [numE_flat, List.map_map, List.length_map, ← HN.out]
      exact hs

theorem getP_any (W : World) (x : List UInt8 × Int) : Calls Try.prog 83 #[.agg #[.string ⟨x.1.toArray⟩, .int .i64 x.2]] W (fun e W' => e = .returned (.string ⟨(x.1).toArray⟩) ∧ Kp W W') := by
  go_enter Try.func83, Try.ntmps83
  go_wp2
  go_ret
  exact ⟨rfl, (Upd.refl _ W).alloc _⟩
set_option maxHeartbeats 1000000 in
theorem applyP_any (w : World) (v : Value) (L : List (List UInt8 × Int)) (h : Lst 2 placeE w v L) (hL : L.length ≤ 1000000000) : Calls Try.prog 82 #[v, .func (.func 83) #[] #[]] w (NewL 1 strE (L.map (·.1)) w) := by
  have eg : ∀ args w, (callFunc 83 args).run Try.prog w = .ok (.enter 83 args) w := Go.Proofs.enters_of Try.func83 (by kernel_rfl) rfl
  obtain ⟨A, c, rfl, hA⟩ := h
  have H := Lib.hid hA
  obtain ⟨n, hn⟩ : ∃ n, n = L.length := ⟨_, rfl⟩
  rw [← hn] at hL ⊢
  have HN := Lib.hid hn
  clear hA hn
  go_enter Try.func82, Try.ntmps82
  go_wp2
  go_loopw [5, 7, 10] (fun v5 _ v wr => ∃ (k : Nat) (A1 : Option Addr) (c1 : Nat), k ≤ n ∧ v = .int .i64 k ∧ v5 = .slice A1 k c1 ∧ Sl wr (.slice A1 k c1) 9 1 k ((L.take k).map fun x => .string ⟨(x.1).toArray⟩) ∧ (∀ b, (Value.slice A1 k c1).ownBlock = some b → w.heap.size ≤ b) ∧ Kp w wr) (fun _ _ v _ => n - (intOf v).toNat)
  case atStart => exact ⟨0, none, 0, Nat.zero_le _, rfl, rfl, by simpa using Sl.nil_ w _ 1, by simp [Value.ownBlock], Upd.refl _ _⟩
  case round =>
    obtain ⟨k, A1, c1, hk, rfl, rfl, ht, hb, hu⟩ := hrel
    have HT := Lib.hid ht
    have HBB := Lib.hid hb
    have HU := Lib.hid hu
    clear ht hu hb
    by_cases hlt : k < n
    · have hkl : k < L.length := by have := HN.out; omega
      obtain ⟨gA, oA, rfl, hc0, hc1⟩ := (H.out.upd HU.out).at2 hkl
      obtain ⟨x, hx⟩ : ∃ x, x = L[k] := ⟨_, rfl⟩
      rw [← hx] at hc0
      rw [← hx] at hc1
      have HX := Lib.hid hx
      clear hx
      have hk0 : (0 : Int) ≤ k := by omega
      have hk1 : (k : Int) < n := by omega
      have hnm : k + 1 ≤ maxLen := by unfold maxLen; omega
      have hby : (k + 1) * 16 ≤ 140737488355328 ∧ (k + 1) * 8 ≤ 140737488355328 := by omega
      have HNM := Lib.hid hnm
      have HBY := Lib.hid hby
      clear hnm hby
      go_wp2_with (first
        | (show Calls _ _ _ (wr.alloc (.cells #[.string ⟨x.1.toArray⟩, .int .i64 x.2] 65)) _; refine (getP_any _ x).mono ?_; rintro e w2 ⟨rfl, hb2⟩; have HB2 : Hid (Kp wr w2) := Lib.hid (Kp.trans ((Upd.refl _ wr).alloc _) hb2); clear hb2)
        | (show wpList _ _ _ (⟨some 19, _, _, _, _, _⟩ :: _) _ _; go_must (refine wpList_append_sl rfl (.tmp 14) (.tmp 18) _ rfl T_strs rfl (HT.out.far (HB2.out.alloc _)) (m := 1) (news := [.string ⟨(x.1).toArray⟩]) rfl (Rd.of_new (cs := #[.string ⟨(x.1).toArray⟩]) (Row.new_at _ _ _ _ rfl) rfl) (by intro u hu; simp at hu; subst hu; rfl) HNM.out (by have := HBY.out; omega) ?_); intro v5 w3 hA; obtain ⟨A5, c5, rfl, _⟩ := hA.sl.form; have HA := Lib.hid hA; have HE := Lib.hid (app_end HBB.out HU.out (HB2.out.alloc _) hA); clear hA))
      go_roundw
      case rel =>
        refine ⟨k + 1, A5, c5, by omega, by go_num, rfl, ?_, HE.out.1, HE.out.2⟩
        rw [List.take_succ_eq_append_getElem hkl, List.map_append, ← HX.out]
        exact HA.out.sl
      case measure => simp [intOf]; omega
    · have hkn : k = n := by omega
      subst hkn
      go_wp2
      go_ret
      refine ⟨_, rfl, ?_, HU.out⟩
      have hs := HT.out
      rw [List.take_of_length_le (by rw [← HN.out]; exact Nat.le_refl _)] at hs
      refine Sl.lst (e := 9) (fun _ => rfl) ?_
      rw [strE_flat, List.map_map, List.length_map, ← HN.out]
      exact hs

theorem getQ_any (W : World) (x : List UInt8 × Int × Int) : Calls Try.prog 87 #[.agg #[.string ⟨x.1.toArray⟩, .int .i64 x.2.1, .int .i64 x.2.2]] W (fun e W' => e = .returned (.string ⟨(x.1).toArray⟩) ∧ Kp W W') := by
  go_enter Try.func87, Try.ntmps87
  go_wp2
  go_ret
  exact ⟨rfl, (Upd.refl _ W).alloc _⟩
set_option maxHeartbeats 1000000 in
theorem applyQ_any (w : World) (v : Value) (L : List (List UInt8 × Int × Int)) (h : Lst 3 quotaE w v L) (hL : L.length ≤ 1000000000) : Calls Try.prog 86 #[v, .func (.func 87) #[] #[]] w (NewL 1 strE (L.map (·.1)) w) := by
  have eg : ∀ args w, (callFunc 87 args).run Try.prog w = .ok (.enter 87 args) w := Go.Proofs.enters_of Try.func87 (by kernel_rfl) rfl
  obtain ⟨A, c, rfl, hA⟩ := h
  have H := Lib.hid hA
  obtain ⟨n, hn⟩ : ∃ n, n = L.length := ⟨_, rfl⟩
  rw [← hn] at hL ⊢
  have HN := Lib.hid hn
  clear hA hn
  go_enter Try.func86, Try.ntmps86
  go_wp2
  go_loopw [5, 7, 10] (fun v5 _ v wr => ∃ (k : Nat) (A1 : Option Addr) (c1 : Nat), k ≤ n ∧ v = .int .i64 k ∧ v5 = .slice A1 k c1 ∧ Sl wr (.slice A1 k c1) 9 1 k ((L.take k).map fun x => .string ⟨(x.1).toArray⟩) ∧ (∀ b, (Value.slice A1 k c1).ownBlock = some b → w.heap.size ≤ b) ∧ Kp w wr) (fun _ _ v _ => n - (intOf v).toNat)
  case atStart => exact ⟨0, none, 0, Nat.zero_le _, rfl, rfl, by simpa using Sl.nil_ w _ 1, by simp [Value.ownBlock], Upd.refl _ _⟩
  case round =>
    obtain ⟨k, A1, c1, hk, rfl, rfl, ht, hb, hu⟩ := hrel
    have HT := Lib.hid ht
    have HBB := Lib.hid hb
    have HU := Lib.hid hu
    clear ht hu hb
    by_cases hlt : k < n
    · have hkl : k < L.length := by have := HN.out; omega
      obtain ⟨gA, oA, rfl, hc0, hc1, hc2⟩ := (H.out.upd HU.out).at3 hkl
      obtain ⟨x, hx⟩ : ∃ x, x = L[k] := ⟨_, rfl⟩
      rw [← hx] at hc0
      rw [← hx] at hc1
      rw [← hx] at hc2
      have HX := Lib.hid hx
      clear hx
      have hk0 : (0 : Int) ≤ k := by omega
      have hk1 : (k : Int) < n := by omega
      have hnm : k + 1 ≤ maxLen := by unfold maxLen; omega
      have hby : (k + 1) * 16 ≤ 140737488355328 ∧ (k + 1) * 8 ≤ 140737488355328 := by omega
      have HNM := Lib.hid hnm
      have HBY := Lib.hid hby
      clear hnm hby
      go_wp2_with (first
        | (show Calls _ _ _ (wr.alloc (.cells #[.string ⟨x.1.toArray⟩, .int .i64 x.2.1, .int .i64 x.2.2] 67)) _; refine (getQ_any _ x).mono ?_; rintro e w2 ⟨rfl, hb2⟩; have HB2 : Hid (Kp wr w2) := Lib.hid (Kp.trans ((Upd.refl _ wr).alloc _) hb2); clear hb2)
        | (show wpList _ _ _ (⟨some 19, _, _, _, _, _⟩ :: _) _ _; go_must (refine wpList_append_sl rfl (.tmp 14) (.tmp 18) _ rfl T_strs rfl (HT.out.far (HB2.out.alloc _)) (m := 1) (news := [.string ⟨(x.1).toArray⟩]) rfl (Rd.of_new (cs := #[.string ⟨(x.1).toArray⟩]) (Row.new_at _ _ _ _ rfl) rfl) (by intro u hu; simp at hu; subst hu; rfl) HNM.out (by have := HBY.out; omega) ?_); intro v5 w3 hA; obtain ⟨A5, c5, rfl, _⟩ := hA.sl.form; have HA := Lib.hid hA; have HE := Lib.hid (app_end HBB.out HU.out (HB2.out.alloc _) hA); clear hA))
      go_roundw
      case rel =>
        refine ⟨k + 1, A5, c5, by omega, by go_num, rfl, ?_, HE.out.1, HE.out.2⟩
        rw [List.take_succ_eq_append_getElem hkl, List.map_append, ← HX.out]
        exact HA.out.sl
      case measure => simp [intOf]; omega
    · have hkn : k = n := by omega
      subst hkn
      go_wp2
      go_ret
      refine ⟨_, rfl, ?_, HU.out⟩
      have hs := HT.out
      rw [List.take_of_length_le (by rw [← HN.out]; exact Nat.le_refl _)] at hs
      refine Sl.lst (e := 9) (fun _ => rfl) ?_
      rw [strE_flat, List.map_map, List.length_map, ← HN.out]
      exact hs

/-- conditions on elements -/
def tierOk (pick : Int) (t : Int × Int) : Bool := inR t.1 0 pick && inR t.2 1 100
def placeOk (p : List UInt8 × Int) : Bool := inR p.2 1 1000
def quotaOk (size : Int) (q : List UInt8 × Int × Int) : Bool := inR q.2.1 0 q.2.2 && decide (q.2.2 ≤ size)

theorem tiers1_ok (w : World) (L : List (Int × Int)) (B : Nat) (pick : Int) (hc : w.cell? ⟨B, 5, none⟩ = some (.int .i64 pick)) : PredOk Try.prog 79 #[.pointer (some ⟨B, 0, none⟩)] valT (tierOk pick) L w := fun W x hx hb => by
  have hc2 := hb.cellAt hc
  have hB := World.block_lt_of_cell? _ _ hc2
  have hB2 : B ≠ W.heap.size := by simp only at hB; omega
  clear hb hc hx
  show Calls Try.prog 79 #[.agg #[.int .i64 x.1, .int .i64 x.2], .pointer (some ⟨B, 0, none⟩)] W _
  obtain ⟨q1, hq1⟩ : ∃ q, q = inR x.1 0 pick := ⟨_, rfl⟩
  obtain ⟨q2, hq2⟩ : ∃ q, q = inR x.2 1 100 := ⟨_, rfl⟩
  have e1 : tierOk pick x = (q1 && q2) := by rw [hq1, hq2]; rfl
  rw [e1]
  have HQ1 := Lib.hid hq1
  have HQ2 := Lib.hid hq2
  clear e1 hq1 hq2
  have hU := (Upd.refl (fun _ => False) W).alloc (.cells #[.int .i64 x.1, .int .i64 x.2] 63)
  have HU := Lib.hid hU
  clear hU
  cases q1
  · go_enter Try.func79, Try.ntmps79
    go_wp2_with (show Calls _ _ _ _ _; go_must (refine (within_any _ x.1 0 pick).mono ?_); rintro e w1 ⟨rfl, rfl⟩; rw [← HQ1.out])
    go_ret
    exact ⟨rfl, HU.out⟩
  · go_enter Try.func79, Try.ntmps79
    go_wp2_with (first
      | (show Calls _ _ _ (World.alloc _ _) _; refine (within_any _ x.1 0 pick).mono ?_; rintro e w1 ⟨rfl, hw⟩; rw [← HQ1.out]; have g1 : w1.cell? ⟨W.heap.size, 1, none⟩ = some (.int .i64 x.2) := (by rw [← hw]; simp); have HU1 : Hid (Kp W w1) := (by rw [← hw]; exact HU); clear hw)
      | (show Calls _ _ _ w1 _; refine (within_any _ x.2 1 100).mono ?_; rintro e w2 ⟨rfl, rfl⟩; rw [← HQ2.out]))
    go_ret
    exact ⟨rfl, HU1.out⟩
theorem places2_ok (w : World) (L : List (List UInt8 × Int)) : PredOk Try.prog 85 #[] valP placeOk L w := fun W x hx hb => by
  show Calls Try.prog 85 #[.agg #[.string ⟨x.1.toArray⟩, .int .i64 x.2]] W _
  clear hb hx
  go_enter Try.func85, Try.ntmps85
  go_wp2_with (show Calls _ _ _ _ _; go_must (refine (within_any _ x.2 1 1000).mono ?_); rintro e w1 ⟨rfl, rfl⟩)
  go_ret
  exact ⟨rfl, (Upd.refl _ W).alloc _⟩
theorem quotas2_ok (w : World) (L : List (List UInt8 × Int × Int)) (B : Nat) (size : Int) (hc : w.cell? ⟨B, 10, none⟩ = some (.int .i64 size)) : PredOk Try.prog 89 #[.pointer (some ⟨B, 0, none⟩)] valQ (quotaOk size) L w := fun W x hx hb => by
  have hc2 := hb.cellAt hc
  have hB := World.block_lt_of_cell? _ _ hc2
  have hB2 : B ≠ W.heap.size := by simp only at hB; omega
  clear hb hc hx
  show Calls Try.prog 89 #[.agg #[.string ⟨x.1.toArray⟩, .int .i64 x.2.1, .int .i64 x.2.2], .pointer (some ⟨B, 0, none⟩)] W _
  obtain ⟨q1, hq1⟩ : ∃ q, q = inR x.2.1 0 x.2.2 := ⟨_, rfl⟩
  have e1 : quotaOk size x = (q1 && decide (x.2.2 ≤ size)) := by rw [hq1]; rfl
  rw [e1]
  have HQ1 := Lib.hid hq1
  clear e1 hq1
  have hU := (Upd.refl (fun _ => False) W).alloc (.cells #[.string ⟨x.1.toArray⟩, .int .i64 x.2.1, .int .i64 x.2.2] 67)
  have HU := Lib.hid hU
  clear hU
  cases q1
  · go_enter Try.func89, Try.ntmps89
    go_wp2_with (show Calls _ _ _ _ _; go_must (refine (within_any _ x.2.1 0 x.2.2).mono ?_); rintro e w1 ⟨rfl, rfl⟩; rw [← HQ1.out])
    go_ret
    exact ⟨rfl, HU.out⟩
  · go_enter Try.func89, Try.ntmps89
    go_wp2_with (show Calls _ _ _ _ _; go_must (refine (within_any _ x.2.1 0 x.2.2).mono ?_); rintro e w1 ⟨rfl, rfl⟩; rw [← HQ1.out])
    go_ret
    exact ⟨by simp, HU.out⟩
end Go.Proofs.Ytaejnhgnacgheaa
