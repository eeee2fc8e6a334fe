/- Journals: what Append and a crash do to what a disk holds. No walk. -/
import Derived.Test.YtcbpgmoegfkhnaaJplain
namespace Go.Proofs.Ytcbpgmoegfkhnaa
set_option linter.unusedVariables false

structure Calm (s : DSt) : Prop where
  syn : s.synced = s.now
  pcs : s.pieces = []
theorem crash_calm {s : DSt} (h : Calm s) (q : List Int) : (crashedSt s q).now = s.now := by
  unfold crashedSt
  rw [h.pcs, h.syn]
  rfl
theorem Calm.crashed (s : DSt) (q : List Int) : Calm (crashedSt s q) := ⟨rfl, rfl⟩
theorem Calm.synced (s : DSt) : Calm (syncedSt s) := ⟨rfl, rfl⟩
theorem Calm.new : Calm newSt := ⟨rfl, rfl⟩
theorem Calm.fail {s : DSt} (h : Calm s) (k : Int) : Calm (failSt s k) := ⟨h.syn, h.pcs⟩

theorem crash_far (q : List Int) (m : Nat) (ps : List (Nat × List UInt8)) (c : List UInt8) (h : ∀ p, p ∈ ps → m ≤ p.1) : Alike m c (crashL q 0 ps c) ∧ c.length ≤ (crashL q 0 ps c).length :=
  crashL_keeps q (fun c' => Alike m c c' ∧ c.length ≤ c'.length) ps 0 c ⟨AlikeR.refl _ _ _, Nat.le_refl _⟩ fun p c' hp hc => ⟨fun i h0 hi => by
    rw [putL_getD, if_neg (by have := h p hp; omega)]
    exact hc.1 i h0 hi, by rw [putL_length]; omega⟩
theorem pcs_head (t : List UInt8) (h : t.length = 8) : pcsL 0 t = [(0, t)] := by
  rw [pcsL_cons 0 8 t (by omega) (by rw [h]; rfl)]
  rw [List.drop_eq_nil_of_le (by omega), pcsL_nil, List.take_of_length_le (by omega)]

def TwoWays (c : List UInt8) (L : List (List UInt8)) (r : List UInt8) : Prop := (∃ n, openedL c = some (n, L)) ∨ (∃ n, openedL c = some (n, L ++ [r]))
structure Torn (s : DSt) (L : List (List UInt8)) (r : List UInt8) : Prop where
  crash : ∀ q, TwoWays (crashedSt s q).now L r
  now : TwoWays s.now L r

theorem recs_sum (c : List UInt8) (e : Nat) (hc : e ≤ c.length) : ∀ (f a : Nat), a ≤ e → e - a ≤ f → (recsL c f a e).all (·.2) = true → ((e - a : Nat) : Int) ≤ lensI ((recsL c f a e).map (·.1))
  | 0, a, h1, h2, _ => by simp [recsL, lensI]; omega
  | f + 1, a, h1, h2, h3 => by
    simp only [recsL] at h3 ⊢
    by_cases hlt : a < e
    · rw [if_pos hlt] at h3 ⊢
      obtain ⟨n, hn⟩ : ∃ n : Nat, valI (readL c a 4) 4 = n := ⟨(valI (readL c a 4) 4).toNat, by have := (valI_four (readL c a 4)).1; omega⟩
      rw [hn, Int.toNat_natCast] at h3 ⊢
      by_cases hb : e < a + 4 + n
      · rw [if_pos hb] at h3
        simp at h3
      · rw [if_neg hb] at h3 ⊢
        have ih := recs_sum c e hc f (a + 4 + n) (by omega) (by omega) (by simpa using h3)
        have hl := readL_len c (a + 4) n (by omega)
        simp only [lensI, List.map_cons, List.sum_cons] at ih ⊢
        rw [hl]
        omega
    · rw [if_neg hlt]
      simp [lensI]
      omega
theorem opened_sum {c : List UInt8} {n : Nat} {L : List (List UInt8)} (h : openedL c = some (n, L)) : (n : Int) ≤ lensI L := by
  obtain ⟨h1, h2, h3, h4, h5⟩ := openedL_some h
  rcases Nat.eq_zero_or_pos n with h0 | h0
  · subst h0
    rw [← h5]
    simp [recsL, lensI]
  · have := recs_sum c (64 + n) (by omega) n 64 (by omega) (by omega) h4
    rw [h5] at this
    omega

/-- What Append does to a calm disk. -/
inductive AppEnds (s : DSt) (j : JSt) (L : List (List UInt8)) (r : List UInt8) : Int × DSt × JSt → Prop where
  | ok (s' : DSt) : Calm s' → openedL s'.now = some (j.p + 4 + r.length, L ++ [r]) → s'.failing = s.failing → AppEnds s j L r (0, s', { many := j.many + 1, bytes := j.bytes + r.length + 16, p := j.p + 4 + r.length, broken := false })
  | no (s' : DSt) : s.failing = true → Torn s' L r → AppEnds s j L r (70, s', { j with broken := true })

theorem notBad {off : Nat} {l : List UInt8} (h : off + l.length ≤ 16777216) : ¬ Bad off l := by unfold Bad; omega
theorem steps_plain {s : DSt} {j : JSt} {L : List (List UInt8)} {r : List UInt8} (hC : Calm s) (ho : openedL s.now = some (j.p, L)) (hp : (j.p : Int) ≤ j.bytes) (hfit : j.bytes + r.length + 16 + 256 ≤ 16777216) :
    (∃ s', stepsSt s (64 + j.p : Nat) (numL r.length 4 ++ r) 0 (numL (j.p + 4 + r.length) 8) = (0, s') ∧ Calm s' ∧ openedL s'.now = some (j.p + 4 + r.length, L ++ [r]) ∧ s'.failing = s.failing) ∨
    (∃ s', stepsSt s (64 + j.p : Nat) (numL r.length 4 ++ r) 0 (numL (j.p + 4 + r.length) 8) = (70, s') ∧ s.failing = true ∧ Torn s' L r) := by
  obtain ⟨t1, ht1⟩ : ∃ t1, t1 = numL r.length 4 ++ r := ⟨_, rfl⟩
  obtain ⟨t2, ht2⟩ : ∃ t2, t2 = numL (j.p + 4 + r.length) 8 := ⟨_, rfl⟩
  have l1 : t1.length = 4 + r.length := by rw [ht1, List.length_append, numL_length]
  have l2 : t2.length = 8 := by rw [ht2, numL_length]
  rw [← ht1, ← ht2]
  obtain ⟨_, hn1, hn2, _, _⟩ := openedL_some ho
  have nb1 : ¬ Bad ((64 + j.p : Nat) : Int) t1 := notBad (by omega)
  have nb2 : ¬ Bad 0 t2 := notBad (off := 0) (by omega)
  -- the contents behind the first write
  have a1 : Alike (64 + j.p) s.now (putL s.now (64 + j.p) t1) := fun i _ hi => by rw [putL_getD, if_neg (by omega)]
  have g1 : s.now.length ≤ (putL s.now (64 + j.p) t1).length := by rw [putL_length]; omega
  have o1 : openedL (putL s.now (64 + j.p) t1) = some (j.p, L) := opened_alike ho a1 (by omega)
  have o2 : openedL (putL (putL s.now (64 + j.p) t1) 0 t2) = some (j.p + 4 + r.length, L ++ [r]) := by
    rw [ht2]
    exact opened_more ho a1 (by omega) (by rw [putL_length, l1]; omega) (fun i hi => by rw [putL_getD, l1, if_pos (by omega), ht1]; congr 1; omega)
  unfold stepsSt
  by_cases d1 : Dead s
  · have e1 : writeSt s ((64 + j.p : Nat) : Int) t1 = (70, s) := by unfold writeSt; rw [if_neg nb1, if_pos d1]
    rw [e1]
    exact .inr ⟨s, by simp, d1.1, ⟨fun q => .inl ⟨_, by rw [crash_calm hC]; exact ho⟩, .inl ⟨_, ho⟩⟩⟩
  · have e1 : writeSt s ((64 + j.p : Nat) : Int) t1 = (0, wroteSt s (64 + j.p) t1) := by unfold writeSt; rw [if_neg nb1, if_neg d1, Int.toNat_natCast]
    rw [e1]
    dsimp only
    rw [if_neg (by simp)]
    by_cases d2 : Dead (wroteSt s (64 + j.p) t1)
    · have e2 : syncSt (wroteSt s (64 + j.p) t1) = (70, wroteSt s (64 + j.p) t1) := by unfold syncSt; rw [if_pos d2]
      rw [e2]
      refine .inr ⟨wroteSt s (64 + j.p) t1, by simp, d2.1, ⟨fun q => .inl ⟨j.p, ?_⟩, .inl ⟨_, o1⟩⟩⟩
      have hf := crash_far q (64 + j.p) (pcsL (64 + j.p) t1) s.now (fun p hp => (pcsL_mem hp).1)
      have : (crashedSt (wroteSt s (64 + j.p) t1) q).now = crashL q 0 (pcsL (64 + j.p) t1) s.now := by simp only [crashedSt, wroteSt, hC.pcs, hC.syn, List.nil_append]
      rw [this]
      exact opened_alike ho hf.1 (by omega)
    · have e2 : syncSt (wroteSt s (64 + j.p) t1) = (0, syncedSt (wroteSt s (64 + j.p) t1)) := by unfold syncSt; rw [if_neg d2]
      rw [e2]
      dsimp only
      rw [if_neg (by simp)]
      obtain ⟨s2, hs2⟩ : ∃ s2, s2 = syncedSt (wroteSt s (64 + j.p) t1) := ⟨_, rfl⟩
      have c2 : Calm s2 := by rw [hs2]; exact Calm.synced _
      have n2 : s2.now = putL s.now (64 + j.p) t1 := by rw [hs2]; rfl
      have f2 : s2.failing = s.failing := by rw [hs2]; rfl
      rw [← hs2]
      rw [← n2] at o1 o2
      by_cases d3 : Dead s2
      · have e3 : writeSt s2 0 t2 = (70, s2) := by unfold writeSt; rw [if_neg nb2, if_pos d3]
        rw [e3]
        exact .inr ⟨s2, by simp, by rw [← f2]; exact d3.1, ⟨fun q => .inl ⟨_, by rw [crash_calm c2]; exact o1⟩, .inl ⟨_, o1⟩⟩⟩
      · have e3 : writeSt s2 0 t2 = (0, wroteSt s2 0 t2) := by unfold writeSt; rw [if_neg nb2, if_neg d3]; rfl
        rw [e3]
        dsimp only
        rw [if_neg (by simp)]
        by_cases d4 : Dead (wroteSt s2 0 t2)
        · have e4 : syncSt (wroteSt s2 0 t2) = (70, wroteSt s2 0 t2) := by unfold syncSt; rw [if_pos d4]
          rw [e4]
          refine .inr ⟨wroteSt s2 0 t2, by simp, by rw [← f2]; exact d4.1, ⟨fun q => ?_, .inr ⟨_, o2⟩⟩⟩
          have : (crashedSt (wroteSt s2 0 t2) q).now = crashL q 0 [(0, t2)] s2.now := by simp only [crashedSt, wroteSt, c2.pcs, c2.syn, List.nil_append, pcs_head t2 l2]
          rw [this]
          simp only [crashL]
          split
          · exact .inr ⟨_, o2⟩
          · exact .inl ⟨_, o1⟩
        · have e4 : syncSt (wroteSt s2 0 t2) = (0, syncedSt (wroteSt s2 0 t2)) := by unfold syncSt; rw [if_neg d4]
          rw [e4]
          exact .inl ⟨syncedSt (wroteSt s2 0 t2), by simp, Calm.synced _, o2, by rw [← f2]; rfl⟩
theorem append_plain {s : DSt} {j : JSt} {L : List (List UInt8)} {r : List UInt8} (hC : Calm s) (ho : openedL s.now = some (j.p, L)) (hb : j.broken = false) (hp : (j.p : Int) ≤ j.bytes) (hfit : j.bytes + r.length + 16 + 256 ≤ 16777216) :
    AppEnds s j L r (appendSt s j r) := by
  unfold appendSt
  rw [hb, if_neg (by simp), if_neg (by omega)]
  rcases steps_plain hC ho hp hfit with ⟨s', e, h1, h2, h3⟩ | ⟨s', e, h1, h2⟩
  · rw [e]
    exact .ok s' h1 h2 h3
  · rw [e]
    exact .no s' h1 h2

theorem Fit.steps {n : Nat} {s : DSt} (h : Fit n s) (o1 : Int) (t1 : List UInt8) (o2 : Int) (t2 : List UInt8) (h1 : t1.length ≤ 16777216) (h2 : t2.length ≤ 16777216) : Fit (n + 4) (stepsSt s o1 t1 o2 t2).2 := by
  unfold stepsSt
  have a := h.write (off := o1) h1
  split
  · exact a.mono (by omega)
  · have b := a.sync
    split
    · exact b.mono (by omega)
    · have c := b.write (off := o2) h2
      split
      · exact c.mono (by omega)
      · exact c.sync
theorem Fit.append {n : Nat} {s : DSt} (h : Fit n s) (j : JSt) (r : List UInt8) (hb : 0 ≤ j.bytes) : Fit (n + 4) (appendSt s j r).2.1 := by
  unfold appendSt
  split
  · exact h.mono (by omega)
  · split
    · exact h.mono (by omega)
    · have := h.steps ((64 + j.p : Nat) : Int) (numL r.length 4 ++ r) 0 (numL (j.p + 4 + r.length) 8) (by rw [List.length_append, numL_length]; omega) (by rw [numL_length]; omega)
      split
      · exact this
      · exact this
theorem append_broken {s : DSt} {j : JSt} (r : List UInt8) (hb : j.broken = true) : appendSt s j r = (70, s, j) := by unfold appendSt; rw [hb]; rfl
theorem append_big {s : DSt} {j : JSt} (r : List UInt8) (hb : j.broken = false) (h : 16777216 < j.bytes + r.length + 16 + 256) : appendSt s j r = (2, s, j) := by unfold appendSt; rw [hb, if_neg (by simp), if_pos h]
end Go.Proofs.Ytcbpgmoegfkhnaa
