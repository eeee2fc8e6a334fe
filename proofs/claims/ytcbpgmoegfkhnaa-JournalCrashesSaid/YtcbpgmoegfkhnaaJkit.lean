/- Journals: what the laws' walks use. -/
import Derived.Test.YtcbpgmoegfkhnaaJplain2
import Derived.Test.YtcbpgmoegfkhnaaJopensB
namespace Go.Proofs.Ytcbpgmoegfkhnaa
set_option linter.unusedVariables false
open Go.RowKit

def jOpen (p : Nat) (L : List (List UInt8)) : JSt := { many := L.length, bytes := lensI L, p := p, broken := false }
theorem jS_open (bd p : Nat) (L : List (List UInt8)) : jcells bd L p false = jS bd (jOpen p L) := by simp [jcells, jS, jrow, jOpen]
def jNext (j : JSt) (r : List UInt8) : JSt := { many := j.many + 1, bytes := j.bytes + r.length + 16, p := j.p + 4 + r.length, broken := false }
structure JGood (j : JSt) (L : List (List UInt8)) : Prop where
  many : j.many = L.length
  bytes : j.bytes = lensI L
  broken : j.broken = false
  p : (j.p : Int) ≤ j.bytes
theorem JGood.opened {c : List UInt8} {p : Nat} {L : List (List UInt8)} (h : openedL c = some (p, L)) : JGood (jOpen p L) L := ⟨rfl, rfl, rfl, opened_sum h⟩
theorem JGood.next {j : JSt} {L : List (List UInt8)} (h : JGood j L) (r : List UInt8) : JGood (jNext j r) (L ++ [r]) := by
  have h1 := h.many
  have h2 := h.bytes
  have h4 := h.p
  refine ⟨?_, ?_, rfl, ?_⟩
  · simp [jNext, h1]
  · simp [jNext, h2, lensI_snoc, Int.add_assoc]
  · simp only [jNext]; omega
theorem JGood.fit {j : JSt} {L : List (List UInt8)} {c : List UInt8} (h : JGood j L) (ho : openedL c = some (j.p, L)) (hL : L.length ≤ 1000000000) (hb : lensI L ≤ 1000000000000000) : JFit j := by
  have h1 := h.many
  have h2 := h.bytes
  have h4 := h.p
  obtain ⟨_, h5, _⟩ := openedL_some ho
  exact ⟨by omega, by omega, by omega, by omega, h5⟩

/-- A journal is opened. -/
def OpenOk (W : World) (m : List Item) (bd p : Nat) (L : List (List UInt8)) (e : Ending) (w' : World) : Prop :=
  ∃ bj A c, e = .returned (.tuple #[.pointer (some ⟨bj, 0, none⟩), .slice A L.length c, .int .i64 0]) ∧ Own W w' (.row bj 61 (jS bd (jOpen p L)) :: .sl (.slice A L.length c) 9 1 (ssv L) :: m)
theorem notDead {s : DSt} (h : s.failing = false) : ¬ Dead s := fun d => by have := d.1; rw [h] at this; cases this
theorem open_ok {W w : World} {m : List Item} (h : Own W w m) (i : Nat) {b : Nat} {s : DSt} (hi : m[i]? = some (.disk b s)) {n : Nat} (hf : Fit n s) (hn : n ≤ 1500) (hd : s.failing = false) {p : Nat} {L : List (List UInt8)} (ho : openedL s.now = some (p, L)) :
    Calls Try.prog 11 #[.pointer (some ⟨b, 0, none⟩)] w (OpenOk W (m.set i (.disk b (syncedSt s))) b p L) := by
  refine (open_any h i hi hf hn).mono fun e w' hp => ?_
  unfold OpenPost at hp
  rw [syncSt_ok hd] at hp
  dsimp only at hp
  have ho2 : openedL (syncedSt s).now = some (p, L) := ho
  rw [if_pos rfl, ho2] at hp
  dsimp only at hp
  obtain ⟨bj, v, he, hO⟩ := hp
  obtain ⟨F, ⟨n2, hs, _⟩, _⟩ := hO.item 1 rfl
  obtain ⟨A, c, rfl, hc⟩ := hs.form
  obtain rfl : n2 = L.length := by have := hs.1; simp [ssv] at this; omega
  rw [jS_open] at hO
  exact ⟨bj, A, c, he, hO⟩

theorem append_ok {s : DSt} {j : JSt} {L : List (List UInt8)} {r : List UInt8} (hC : Calm s) (ho : openedL s.now = some (j.p, L)) (hJ : JGood j L) (hfit : j.bytes + r.length + 16 + 256 ≤ 16777216) (hd : s.failing = false) :
    ∃ s', appendSt s j r = (0, s', jNext j r) ∧ Calm s' ∧ openedL s'.now = some ((jNext j r).p, L ++ [r]) ∧ s'.failing = false := by
  have h := append_plain hC ho hJ.broken hJ.p hfit
  generalize hx : appendSt s j r = x at h
  cases h with
  | ok s' h1 h2 h3 => exact ⟨s', rfl, h1, h2, h3.trans hd⟩
  | no s' h1 h2 => rw [hd] at h1; cases h1
theorem append_dead {s : DSt} {j : JSt} {L : List (List UInt8)} {r : List UInt8} (hC : Calm s) (ho : openedL s.now = some (j.p, L)) (hJ : JGood j L) (hfit : j.bytes + r.length + 16 + 256 ≤ 16777216) (hd : Dead s) :
    appendSt s j r = (70, s, { j with broken := true }) := by
  obtain ⟨_, hn1, hn2, _, _⟩ := openedL_some ho
  have hp := hJ.p
  have e1 : writeSt s ((64 + j.p : Nat) : Int) (numL r.length 4 ++ r) = (70, s) := by
    unfold writeSt
    rw [if_neg (notBad (by rw [List.length_append, numL_length]; omega)), if_pos hd]
  have e2 : stepsSt s ((64 + j.p : Nat) : Int) (numL r.length 4 ++ r) 0 (numL (j.p + 4 + r.length) 8) = (70, s) := by
    unfold stepsSt
    rw [e1]
    simp
  unfold appendSt
  rw [hJ.broken, if_neg (by simp), if_neg (by omega), e2]
  simp

theorem short_take (l : List UInt8) (n : Nat) : (⟨l.toArray⟩ : ByteArray).extract 0 n = ⟨(l.take n).toArray⟩ := by
  apply ByteArray.ext
  simp [ByteArray.extract, ByteArray.copySlice]
theorem short_any (w : World) (l : List UInt8) (hl : l.length ≤ maxLen) : Calls Try.prog 14 #[.string ⟨l.toArray⟩] w fun e w' => e = .returned (.string ⟨(l.take 200).toArray⟩) ∧ w = w' := by
  unfold maxLen at hl
  have E := Lib.hid (short_take l 200)
  have E2 : Hid ((l.length : Int) ≤ 200 → (⟨l.toArray⟩ : ByteArray).extract 0 l.length = ⟨(l.take 200).toArray⟩) := Lib.hid fun h => by
    rw [short_take, List.take_of_length_le (Nat.le_refl _), List.take_of_length_le (by omega)]
  go_enter Try.func14, Try.ntmps14
  go_wp2
  all_goals go_ret
  · exact ⟨by rw [← E.out]; rfl, rfl⟩
  · exact ⟨by rw [← E2.out ‹_›]; rfl, rfl⟩
end Go.Proofs.Ytcbpgmoegfkhnaa
