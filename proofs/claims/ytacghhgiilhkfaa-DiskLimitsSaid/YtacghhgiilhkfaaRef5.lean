/- the reference's Crash. -/
import Derived.Test.YtacghhgiilhkfaaRef4
namespace Go.Proofs.Ytacghhgiilhkfaa
set_option linter.unusedVariables false
open Go.RowKit

theorem crashL_dead (q : List Int) (hq : q.length = 0) : ∀ (ps : List (Nat × List UInt8)) (k : Nat) (c : List UInt8), crashL q k ps c = c
  | [], _, _ => rfl
  | p :: ps, k, c => by
    simp only [crashL, alive_false0 q k hq]
    exact crashL_dead q hq ps (k + 1) c

/-- What holds at each head of the loop. -/
def RCRel (w : World) (q : List Int) (s : DSt) (r : List UInt8) (k : Nat) (c : List UInt8) (wr : World) : Prop :=
  crashL q k (s.pieces.drop k) c = r ∧ c.length ≤ 16777216 ∧ Upd (fun _ => False) w wr

theorem rcrel_step {w wr w2 : World} {q : List Int} {s : DSt} {r c : List UInt8} {k : Nat} {p : Nat × List UInt8} (h : RCRel w q s r k c wr) (hp : s.pieces[k]? = some p) (hpl : p.1 + p.2.length ≤ 16777216) (hu : Upd (fun _ => False) wr w2) :
    RCRel w q s r (k + 1) (if alive q k then putL c p.1 p.2 else c) w2 := by
  obtain ⟨h1, h2, h3⟩ := h
  obtain ⟨hk, rfl⟩ := List.getElem?_eq_some_iff.1 hp
  rw [List.drop_eq_getElem_cons hk] at h1
  simp only [crashL] at h1
  refine ⟨h1, ?_, h3.trans hu (fun _ _ h => h)⟩
  split
  · rw [putL_length]; omega
  · exact h2

theorem rcrash_end {w wr : World} {r : List UInt8} (hu : Upd (fun _ => False) w wr) :
    NewRef w { newSt with now := r, synced := r } (.returned (.pointer (some ⟨wr.heap.size, 0, none⟩))) (wr.alloc (.cells (rcells r r (.slice none 0 0) 0 0 false).toArray 63)) :=
  ⟨_, rfl, ⟨.slice none 0 0, Row.new wr _ _, Sl.nil_ _ _ _, ⟨hu.size, by simp⟩, by simp [Value.ownBlock]⟩, hu.alloc _⟩

theorem rcrash_fin {w wr : World} {s : DSt} {q : List Int} {c : List UInt8} (he : c = crashL q 0 s.pieces s.synced) (hu : Upd (fun _ => False) w wr) :
    NewRef w (crashedSt s q) (.returned (.pointer (some ⟨wr.heap.size, 0, none⟩))) (wr.alloc (.cells (rcells c c (.slice none 0 0) 0 0 false).toArray 63)) := by
  subst he
  exact rcrash_end hu

set_option maxHeartbeats 2000000 in
theorem rcrash_any (w : World) (F : Nat → Prop) (b : Nat) (s : DSt) (hd : RAt w F b s) (Aq : Option Addr) (nq cq : Nat) (q : List Int) (hq : Rd w (.slice Aq nq cq) 1 nq (ivs q)) (hqb : ∀ k, (Value.slice Aq nq cq).ownBlock = some k → k < w.heap.size)
    (hqn : nq ≤ maxLen) (hsy : s.synced.length ≤ 16777216) (hpc : s.pieces.length ≤ 1000000000) (hps : ∀ p, p ∈ s.pieces → p.1 + p.2.length ≤ 16777216) :
    Calls Try.prog 17 #[.pointer (some ⟨b, 0, none⟩), .slice Aq nq cq] w (NewRef w (crashedSt s q)) := by
  obtain ⟨vp, hr, hs, hb, hp⟩ := hd
  obtain ⟨Ap, cp, rfl, hcp⟩ := hs.form
  have hbw := hr.lt
  have c1 := hr.c1
  unfold maxLen at hqn
  have hql : q.length = nq := by have := hq.1; rw [ivs_length] at this; omega
  have HQL := Lib.hid hql
  have HQ := Lib.hid hq
  have HR := Lib.hid hr
  have HS := Lib.hid hs
  clear hq hr hs hql
  go_enter Try.func17, Try.ntmps17
  go_wp2_with fail
  go_loopw [5, 6] (fun v i wr => ∃ (k : Nat) (c : List UInt8), k ≤ s.pieces.length ∧ v = .string ⟨c.toArray⟩ ∧ i = .int .i64 k ∧ RCRel w q s (crashL q 0 s.pieces s.synced) k c wr) (fun _ i _ => s.pieces.length - (intOf i).toNat)
  case atStart => exact ⟨0, s.synced, Nat.zero_le _, rfl, rfl, rfl, hsy, Upd.refl _ _⟩
  case round =>
    obtain ⟨k, c, hkl, rfl, rfl, hR⟩ := hrel
    have hu := hR.2.2
    have hcl := hR.2.1
    have hr2 := Row.upd HR.out hu id
    have c2 := RRow.c2 hr2
    have hbw2 := hr2.lt
    have HRR := Lib.hid hR
    clear hR hr2
    by_cases hq0 : nq = 0
    · have hE := HRR.out.1
      rw [crashL_dead q (by rw [HQL.out]; exact hq0)] at hE
      have HE := Lib.hid hE
      subst hq0
      clear hE
      by_cases hlt : k < s.pieces.length
      all_goals
        go_wp2_with fail
        go_ret
        exact rcrash_fin HE.out HRR.out.2.2
    · have hq1 : 0 < nq := by omega
      clear hq0
      by_cases hlt : k < s.pieces.length
      · obtain ⟨p, hp'⟩ : ∃ p, s.pieces[k]? = some p := ⟨_, List.getElem?_eq_getElem hlt⟩
        obtain ⟨g1, g2⟩ := pcells_at s.pieces k p hp'
        obtain ⟨g, o, rfl⟩ := Sl.some_ HS.out (by omega)
        have hcell := (HS.out.far hu).rd
        have e0 := hcell.cellAt g1
        have e1 := hcell.cellAt g2
        have hpl := hps p (List.mem_of_getElem? hp')
        have HP := Lib.hid hp'
        obtain ⟨gq, oq, rfl⟩ := Rd.some_ HQ.out hq1
        have hkm : k % nq < nq := Nat.mod_lt _ hq1
        obtain ⟨x, hx⟩ : ∃ x, q[k % nq]? = some x := ⟨_, List.getElem?_eq_getElem (by rw [HQL.out]; exact hkm)⟩
        have eq0 : wr.cell? ⟨gq, oq + k % nq, none⟩ = some (.int .i64 x) := (HQ.out.upd hu (fun k hk => ⟨hqb k hk, id⟩)).cellAt (by simp [ivs, hx])
        have HAL : Hid (alive q k = (x.tmod 2 != 0)) := alive_of q k x (by rw [HQL.out]; exact hq1) (by rw [HQL.out]; exact hx)
        clear hx hp' hcell g1 g2 hu
        by_cases ha : (x.tmod 2 != 0) = true
        · have HA := Lib.hid ha
          go_wp2_with fail
          go_region_held3 (fun w' => w'.cell? ⟨b, 2, none⟩ = some (.slice (some ⟨g, o, none⟩) s.pieces.length cp) ∧ w'.cell? ⟨g, o + k * 2, none⟩ = some (.int .i64 p.1) ∧ w'.cell? ⟨g, o + k * 2 + 1, none⟩ = some (.string ⟨p.2.toArray⟩))
            (first | exact ⟨c2, e0, e1⟩ | exact ⟨(hu2.cell (a := ⟨b, 2, none⟩) hbw2 id).trans c2, (hu2.cell (a := ⟨g, o + k * 2, none⟩) (World.block_lt_of_cell? _ _ e0) id).trans e0, (hu2.cell (a := ⟨g, o + k * 2 + 1, none⟩) (World.block_lt_of_cell? _ _ e1) id).trans e1⟩)
            ((go_at_call 35; refine (rput_any _ c p.2 p.1 (by omega) (by omega) (by omega)).mono ?_; rintro e w2 ⟨rfl, hu2⟩))
          go_wp2_with fail
          go_roundw
          case rel => exact ⟨k + 1, putL c p.1 p.2, hlt, rfl, by go_num, by have := rcrel_step HRR.out HP.out hpl (w2 := w2) (((Upd.refl _ wr).drew).trans hu2 (fun _ _ h => h)); rwa [HAL.out, HA.out] at this⟩
          case measure => simp [intOf]; omega
        · have ha' : (x.tmod 2 != 0) = false := by simpa using ha
          clear ha
          have HA := Lib.hid ha'
          go_wp2_with fail
          go_roundw
          case rel => exact ⟨k + 1, c, hlt, rfl, by go_num, by have := rcrel_step HRR.out HP.out hpl (Upd.refl _ wr); rwa [HAL.out, HA.out] at this⟩
          case measure => simp [intOf]; omega
      · have hkn : k = s.pieces.length := by omega
        have hE := HRR.out.1
        rw [hkn, List.drop_length] at hE
        have HE : Hid (c = crashL q 0 s.pieces s.synced) := hE
        clear hE hkn
        go_wp2_with fail
        go_ret
        exact rcrash_fin HE.out HRR.out.2.2
end Go.Proofs.Ytacghhgiilhkfaa
