/- the reference's journal: Opens. -/
import Derived.Test.YtcbpgmoegfkhnaaJref
import Derived.Deep.RegionLaw
namespace Go.Proofs.Ytcbpgmoegfkhnaa
set_option linter.unusedVariables false
open Go.RowKit

theorem rj_row {W w : World} {m : List Item} (h : Own W w m) (i : Nat) {b : Nat} {j : RjS} (hi : m[i]? = some (.rjS b j)) : ∃ vL vM, Row w b 38 [vL, vM, .bool j.broken, .int .i64 j.bytes] := by
  obtain ⟨F, ⟨vL, vM, hJ⟩, _⟩ := h.take i hi
  exact ⟨vL, vM, hJ.row⟩
theorem rj_bytes {W w : World} {m : List Item} (h : Own W w m) (i : Nat) {b : Nat} {j : RjS} (hi : m[i]? = some (.rjS b j)) (n : Int) : Own W (w.setCell ⟨b, 3, none⟩ (.int .i64 n)) (m.set i (.rjS b { j with bytes := n })) := by
  obtain ⟨F, ⟨vL, vM, hJ⟩, _, hgo⟩ := h.take i hi
  have hu : Upd (fun k => k = b) w (w.setCell ⟨b, 3, none⟩ (.int .i64 n)) := (Upd.refl (fun k => k = b) w).setCell (p := ⟨b, 3, none⟩) (fun _ => rfl) _
  obtain ⟨n1, n2⟩ := hJ.nb
  exact hgo _ _ ⟨vL, vM, hJ.row.set 3 (.int .i64 n), hJ.l.upd hu (fun k hk e => n1 (by rw [hk, e])), hJ.m.upd hu (fun k hk e => n2 (by rw [hk, e])), .inl hJ.fb, fun k hk => ⟨.inl (hJ.fl k hk).1, (hJ.fl k hk).2⟩, fun k hk => .inl (hJ.fm k hk)⟩ (hu.mono fun k _ e => by rw [e]; exact hJ.fb)
/-- a list that is read, beside the others -/
theorem sl_read {W w : World} {m : List Item} (h : Own W w m) (i : Nat) {v : Value} {e size : Nat} {xs : List Value} (hi : m[i]? = some (.sl v e size xs)) : ∃ n, Rd w v size n xs ∧ ∀ k, v.ownBlock = some k → k < w.heap.size := by
  obtain ⟨F, ⟨n, hs, hb⟩, hF⟩ := h.item i hi
  exact ⟨n, hs.rd, fun k hk => hs.lt hk⟩

/-- What has been stored ahead of Opens' loop. -/
theorem opens_stored {w w1 : World} {F : Nat → Prop} {b : Nat} {L M l : List (List UInt8)} {br : Bool} {by_ : Int} {vL vM v1 : Value} {g : Nat} (h : RjAt w F b L M br by_ vL vM) (hg : g = w.heap.size)
    (hA : Appended (w.alloc (.cells #[] 9)) (.slice (some ⟨g, 0, none⟩) 0 0) 9 1 l.length (ssv l) v1 w1) :
    Row w1 b 38 [vL, vM, .bool br, .int .i64 by_] ∧
    RjAt ((((w1.setCell ⟨b, 0, none⟩ v1).setCell ⟨b, 2, none⟩ (.bool false)).setCell ⟨b, 1, none⟩ (.slice none 0 0)).setCell ⟨b, 3, none⟩ (.int .i64 0)) (GrowO F w ((((w1.setCell ⟨b, 0, none⟩ v1).setCell ⟨b, 2, none⟩ (.bool false)).setCell ⟨b, 1, none⟩ (.slice none 0 0)).setCell ⟨b, 3, none⟩ (.int .i64 0))) b l [] false 0 v1 (.slice none 0 0) ∧
    Upd F w ((((w1.setCell ⟨b, 0, none⟩ v1).setCell ⟨b, 2, none⟩ (.bool false)).setCell ⟨b, 1, none⟩ (.slice none 0 0)).setCell ⟨b, 3, none⟩ (.int .i64 0)) := by
  have hu0 : Upd (fun _ => False) w (w.alloc (.cells #[] 9)) := (Upd.refl _ _).alloc _
  have h0 := h.upd hu0 (fun _ _ => id) (fun _ h => h)
  have hgb : ¬ (Value.slice (some ⟨g, 0, none⟩) 0 0).ownBlock = some b := fun e => by
    simp [Value.ownBlock] at e
    have := h.row.lt
    omega
  have hr1 := h0.row.upd hA.upd hgb
  have hu2 : Upd (fun k => k = b) w1 ((((w1.setCell ⟨b, 0, none⟩ v1).setCell ⟨b, 2, none⟩ (.bool false)).setCell ⟨b, 1, none⟩ (.slice none 0 0)).setCell ⟨b, 3, none⟩ (.int .i64 0)) :=
    ((((Upd.refl (fun k => k = b) w1).setCell (p := ⟨b, 0, none⟩) (fun _ => rfl) v1).setCell (p := ⟨b, 2, none⟩) (fun _ => rfl) _).setCell (p := ⟨b, 1, none⟩) (fun _ => rfl) _).setCell (p := ⟨b, 3, none⟩) (fun _ => rfl) _
  have hz : (w.alloc (.cells #[] 9)).heap.size = w.heap.size + 1 := World.size_alloc _ _
  have hv1 : ∀ k, v1.ownBlock = some k → w.heap.size ≤ k := fun k hk => by
    rcases hA.at_ with e | e
    · rw [e.1] at hk; simp [Value.ownBlock] at hk; omega
    · rw [e.1] at hk; simp at hk; omega
  have hv1b : v1.ownBlock ≠ some b := fun e => by have := hv1 b e; have := h.row.lt; omega
  refine ⟨hr1, ⟨?_, ?_, Sl.nil_ _ _ _, .inl h.fb, fun k hk => ⟨.inr ⟨hv1 k hk, ?_⟩, by simp [Value.ownBlock]⟩, by simp [Value.ownBlock]⟩, ?_⟩
  · exact (((hr1.set 0 v1).set 2 (.bool false)).set 1 (.slice none 0 0)).set 3 (.int .i64 0)
  · have := hA.sl.upd hu2 (fun k hk e => hv1b (by rw [hk, e]))
    simpa using this
  · have := hA.sl.lt hk
    simpa using this
  · exact ((hu0.mono (fun _ _ h => h.elim)).trans hA.upd (fun k hk e => by simp [Value.ownBlock] at e; omega)).trans hu2 (fun k hk e => by rw [e]; exact h.fb)

theorem Rd.cellAt' {w : World} {g o size n n' c : Nat} {xs : List Value} (h : Rd w (.slice (some ⟨g, o, none⟩) n c) size n' xs) (j : Nat) (u : Value) (hu : xs[j]? = some u) : w.cell? ⟨g, o + j, none⟩ = some u := by
  obtain ⟨_, A', c', hv, _, h0, hc⟩ := h
  cases hv
  exact (hc _ rfl).2 j u hu
theorem opens_own {W w w2 w4 : World} {m : List Item} {F : Nat → Prop} {i b : Nat} {l : List (List UInt8)} {v1 : Value} (hgo : ∀ (w' : World) (it' : Item), ItemAt w' (GrowO F w w') it' → Upd F w w' → Own W w' (m.set i it')) (hu : Upd (fun _ => False) w w2)
    (h : RjAt w4 (GrowO F w2 w4) b l [] false 0 v1 (.slice none 0 0) ∧ Upd F w2 w4) : Own W w4 (m.set i (.rjS b ⟨l, [], false, 0⟩)) :=
  hgo _ _ ⟨_, _, h.1.upd (Upd.refl (fun _ => False) _) (fun _ _ => id) (fun k hk => hk.imp id (fun h' => ⟨Nat.le_trans hu.size h'.1, h'.2⟩))⟩ ((hu.mono (fun _ _ h => h.elim)).trans h.2 (fun _ _ h => h))
theorem lensI_take (l : List (List UInt8)) {k : Nat} (hk : k < l.length) : lensI (l.take (k + 1)) = lensI (l.take k) + ((l[k].length : Int) + 16) := by
  rw [List.take_succ_eq_append_getElem hk, lensI_snoc]
theorem lensI_le (l : List (List UInt8)) (B : Nat) (h : ∀ r, r ∈ l → r.length ≤ B) : 0 ≤ lensI l ∧ lensI l ≤ l.length * ((B : Int) + 16) := by
  induction l with
  | nil => simp [lensI]
  | cons x l ih =>
    have h1 := ih (fun r hr => h r (by simp [hr]))
    have h2 := h x (by simp)
    simp only [lensI, List.map_cons, List.sum_cons, List.length_cons] at h1 ⊢
    have : ((l.length + 1 : Nat) : Int) * ((B : Int) + 16) = l.length * ((B : Int) + 16) + ((B : Int) + 16) := by rw [Int.natCast_add, Int.add_mul]; simp
    omega

def OpensPost (W : World) (m : List Item) (i b : Nat) (l : List (List UInt8)) (e : Ending) (w' : World) : Prop := e = .returned (.bool true) ∧ Own W w' (m.set i (.rjS b ⟨l, [], false, lensI l⟩))

set_option maxHeartbeats 4000000 in
set_option maxRecDepth 20000 in
theorem opens_same {W w : World} {m : List Item} (h : Own W w m) (i i2 : Nat) (hne : i ≠ i2) {b : Nat} {j : RjS} (hi : m[i]? = some (.rjS b j)) {vl : Value} {l : List (List UInt8)} (hi2 : m[i2]? = some (.sl vl 9 1 (ssv l))) (hl : l.length ≤ 1000000000) (hlb : ∀ r, r ∈ l → r.length ≤ 16777216) (hjl : j.l.length ≤ 1000000000) (hjm : j.m.length ≤ 1000000000) (hyp : l = j.l) :
    Calls Try.prog 18 #[.pointer (some ⟨b, 0, none⟩), vl] w (OpensPost W m i b l) := by
  obtain ⟨F, hJ0, hF, hgo⟩ := h.take i hi
  obtain ⟨vL, vM, hJ⟩ := hJ0
  obtain ⟨L, M, br, by_⟩ := j
  dsimp only at hjl hjm hJ hyp
  obtain ⟨n2, hrd, hvb⟩ := sl_read h i2 hi2
  obtain rfl : n2 = l.length := by have := hrd.1; simp [ssv] at this; omega
  have hrd' := hrd
  obtain ⟨hlen, Al, cl, rfl, hcl, hal0, hall⟩ := hrd'
  have hi3 : ∀ x, (m.set i x)[i2]? = some (.sl (.slice Al l.length cl) 9 1 (ssv l)) := fun x => by rw [List.getElem?_set_ne hne]; exact hi2
  have hi4 : ∀ x, (m.set i x)[i]? = some x := fun x => List.getElem?_set_self (List.getElem?_eq_some_iff.1 hi).1
  have HI3 := Lib.hid hi3
  have HI4 := Lib.hid hi4
  have HRD := Lib.hid hrd
  have HGO := Lib.hid hgo
  have HJ := Lib.hid hJ
  have H := Lib.hid h
  have c0 : w.cell? ⟨b, 0, none⟩ = some vL := hJ.row.cell 0
  have c1 : w.cell? ⟨b, 1, none⟩ = some vM := hJ.row.cell 1
  have c2 : w.cell? ⟨b, 2, none⟩ = some (.bool br) := hJ.row.cell 2
  have HE : Hid (decide (l = L) = true) := Lib.hid (by simp [hyp])
  clear hyp
  clear hrd hall hi3 hi4 hgo hJ h
  go_enter Try.func18, Try.ntmps18
  go_wp2_with (first
    | (go_at_call 20; go_must (have hc := rsame_any _ _ _ l L HRD.out HJ.out.l.rd (by unfold maxLen; omega) (by unfold maxLen; omega); rw [HE.out] at hc; refine hc.mono ?_; clear hc; rintro e w2 ⟨rfl, hu2⟩; have h2 := HJ.out.upd hu2 (fun _ _ => id) (fun _ h => h); have d2 : w2.cell? ⟨b, 2, none⟩ = some (.bool br) := h2.row.cell 2; have HU2 := Lib.hid hu2; have HJ2 := Lib.hid h2; clear h2 hu2))
    | (show wpList _ _ _ (⟨some 54, _, _, _, _, _⟩ :: _) _ _; go_must (refine wpList_append_sl rfl (.tmp 52) (.tmp 53) _ rfl T_strs rfl (Sl.empty_lit w2 9 w2.heap.size rfl) rfl ((HRD.out.upd (HU2.out.alloc (.cells #[] 9)) (fun k hk => ⟨hvb k hk, id⟩))) (ssv_ones l) (by unfold maxLen; omega) (by omega) ?_); intro v1 w3 hA; simp only [Nat.zero_add, List.nil_append] at hA; obtain ⟨A1, k1, rfl, _⟩ := hA.sl.form; have hz := opens_stored HJ2.out rfl hA; have g0 := hz.1.cell 0; have g1 := hz.1.cell 1; have g2 := hz.1.cell 2; have g3 := hz.1.cell 3; have f0 := hz.1.frozen (j := 0) (by simp); have f1 := hz.1.frozen (j := 1) (by simp); have f2 := hz.1.frozen (j := 2) (by simp); have f3 := hz.1.frozen (j := 3) (by simp); have HO := Lib.hid (opens_own HGO.out HU2.out hz.2); clear hz hA))
  go_loopw [6] (fun v wr => ∃ k : Nat, k ≤ l.length ∧ v = .int .i64 k ∧ Own W wr (m.set i (.rjS b ⟨l, [], false, lensI (l.take k)⟩))) (fun v _ => l.length - (intOf v).toNat)
  case atStart => exact ⟨0, Nat.zero_le _, rfl, HO.out⟩
  case round =>
    obtain ⟨k, hk, rfl, hO⟩ := hrel
    have HR := Lib.hid hO
    clear hO HO
    by_cases hlt : k < l.length
    · obtain ⟨vL2, vM2, hr2⟩ := rj_row HR.out i (HI4.out _)
      obtain ⟨n3, hrd3, hvb3⟩ := sl_read HR.out i2 (HI3.out _)
      obtain ⟨gl, ol, rfl⟩ : ∃ g o, Al = some ⟨g, o, none⟩ := by
        cases Al with
        | none => have := hal0 rfl; omega
        | some ad => exact ⟨ad.block, ad.off, by
            obtain ⟨_, _, _, hv, _, _, hc⟩ := hrd3
            cases hv
            have := (hc ad rfl).1
            cases ad
            simp_all⟩
      have e1 := hrd3.cellAt' k (.string ⟨l[k].toArray⟩) (by simp [ssv, hlt])
      obtain ⟨S0, hS0⟩ : ∃ S0, S0 = lensI (l.take k) := ⟨_, rfl⟩
      have hsb := lensI_le (l.take k) 16777216 (fun r hr => hlb r (List.mem_of_mem_take hr))
      rw [← hS0] at hsb
      have hlk : (l.take k).length ≤ k := List.length_take_le _ _
      have hS1 : 0 ≤ S0 := hsb.1
      have hS2 : S0 ≤ 100000000000000000 := by
        have h2 : (((l.take k).length : Nat) : Int) * (((16777216 : Nat) : Int) + 16) ≤ 1000000000 * (((16777216 : Nat) : Int) + 16) := Int.mul_le_mul_of_nonneg_right (by omega) (by omega)
        have := hsb.2
        omega
      have e2 : wr.cell? ⟨b, 3, none⟩ = some (.int .i64 S0) := by rw [hS0]; exact hr2.cell 3
      have e3 := hr2.frozen (j := 3) (by simp)
      have hrl := hlb _ (List.getElem_mem hlt)
      obtain ⟨x, hx⟩ : ∃ x, x = l[k] := ⟨_, rfl⟩
      rw [← hx] at e1 hrl
      have hxl : (x.length : Int) ≤ 16777216 := by omega
      have hk0 : (0 : Int) ≤ k := by omega
      have hk1 : (k : Int) < l.length := by omega
      have HX := Lib.hid hx
      have HS0 := Lib.hid hS0
      clear hr2 hrd3 hvb3 hsb hlk hx hS0 hrl
      go_wp2
      go_region
      all_goals go_wp2
      all_goals go_roundw
      case rel => exact ⟨k + 1, by omega, by go_num, by
        have h5 := rj_bytes HR.out i (HI4.out _) (S0 + ((x.length : Int)) + 16)
        rw [List.set_set] at h5
        rw [lensI_take l hlt, ← HS0.out, ← HX.out, ← Int.add_assoc]
        exact h5.drew⟩
      case measure => simp [intOf]; omega
    · obtain rfl : k = l.length := by omega
      go_wp2
      go_ret
      exact ⟨rfl, by have := HR.out; rwa [List.take_length] at this⟩

end Go.Proofs.Ytcbpgmoegfkhnaa
