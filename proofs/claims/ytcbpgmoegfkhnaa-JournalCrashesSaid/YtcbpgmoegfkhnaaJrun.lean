/- Journals: a journal and its model side by side, also where the power fails. -/
import Derived.Test.YtcbpgmoegfkhnaaJlaw
namespace Go.Proofs.Ytcbpgmoegfkhnaa
set_option linter.unusedVariables false
open Go.RowKit

structure Run (s : DSt) (j : JSt) (mj : RjS) (n : Nat) : Prop where
  fit : Fit n s
  len : mj.l.length ≤ n
  small : Small mj.l
  mlen : mj.m.length ≤ 1
  bytes : mj.bytes = lensI mj.l
  jfit : JFit j
  ways : (Calm s ∧ openedL s.now = some (j.p, mj.l) ∧ JGood j mj.l ∧ mj.broken = false ∧ mj.m = []) ∨ (j.broken = true ∧ mj.broken = true ∧ ∃ r : List UInt8, r.length ≤ 200 ∧ mj.m = [r] ∧ Torn s mj.l r)
theorem Run.start {p n : Nat} {s : DSt} {L : List (List UInt8)} (h : DOn s p L n) (hL : L.length ≤ n) (hn : n ≤ 1000) (hS : Small L) {mj : RjS} (hl : mj.l = L) (hm : mj.m = []) (hb : mj.broken = false) (hy : mj.bytes = lensI L) : Run (syncedSt s) (jOpen p L) mj (n + 1) := by
  have := hS.lens
  refine ⟨h.on.fit, by rw [hl]; omega, by rw [hl]; exact hS, by rw [hm]; simp, by rw [hy, hl], h.on.good.fit h.on.opened (by omega) (by omega), .inl ⟨h.on.calm, by rw [hl]; exact h.on.opened, by rw [hl]; exact h.on.good, hb, hm⟩⟩
theorem Run.fail {s : DSt} {j : JSt} {mj : RjS} {n : Nat} (h : Run s j mj n) {c : Int} (h1 : -1 ≤ c) (h2 : c ≤ 9223372036854775807) : Run (failSt s c) j mj (n + 1) := by
  refine ⟨h.fit.fail h1 h2, by have := h.len; omega, h.small, h.mlen, h.bytes, h.jfit, ?_⟩
  rcases h.ways with ⟨a1, a2, a3⟩ | ⟨b1, b2, r, b3, b4, b5⟩
  · exact .inl ⟨a1.fail c, a2, a3⟩
  · exact .inr ⟨b1, b2, r, b3, b4, ⟨b5.crash, b5.now⟩⟩
theorem Run.room {s : DSt} {j : JSt} {mj : RjS} {n : Nat} (h : Run s j mj n) (hn : n ≤ 1000) : 0 ≤ mj.bytes ∧ mj.bytes ≤ 216000 := by
  have h1 := h.small.lens
  have h2 := h.len
  have h3 := h.bytes
  constructor
  · omega
  · have : (mj.l.length : Int) ≤ 1000 := by omega
    omega
theorem Run.step {s s' : DSt} {j j' : JSt} {mj : RjS} {n : Nat} {x : Int} (h : Run s j mj n) (hn : n ≤ 900) {r : List UInt8} (hr : r.length ≤ 200) (he : appendSt s j r = (x, s', j')) : Run s' j' (rappSt mj r (x == 0)).2 (n + 4) ∧ (x = 0 ∨ x = 70) := by
  have hroom := h.room (by omega)
  have hf := h.fit.append j r h.jfit.b0
  rw [he] at hf
  rcases h.ways with ⟨a1, a2, a3, a4, a5⟩ | ⟨b1, b2, r0, b3, b4, b5⟩
  · have hb := a3.bytes
    have hjb : j.bytes ≤ 216000 := by rw [hb, ← h.bytes]; exact hroom.2
    have ha := append_plain a1 a2 a3.broken a3.p (r := r) (by omega)
    rw [he] at ha
    have hj0 := a3.fit a2 (by have := h.len; omega) (by rw [← hb]; omega)
    cases ha with
    | ok s' k1 k2 k3 =>
      have e : rappSt mj r ((0 : Int) == 0) = (0, { mj with l := mj.l ++ [r], bytes := mj.bytes + r.length + 16 }) := by
        unfold rappSt
        rw [a4, if_neg (by simp), if_neg (by omega), if_pos (by decide)]
      rw [e]
      have hg := a3.next r
      refine ⟨⟨hf, by simp; have := h.len; omega, h.small.add hr, h.mlen, by simp only [lensI_snoc, h.bytes]; omega, hg.fit k2 (by simp; have := h.len; omega) (by rw [lensI_snoc, ← h.bytes]; omega), .inl ⟨k1, k2, hg, a4, a5⟩⟩, .inl rfl⟩
    | no s' k1 k2 =>
      have e : rappSt mj r ((70 : Int) == 0) = (70, { mj with broken := true, m := mj.m ++ [r] }) := by
        unfold rappSt
        rw [a4, if_neg (by simp), if_neg (by omega), if_neg (by decide)]
      rw [e]
      refine ⟨⟨hf, by have := h.len; simp only []; omega, h.small, by simp [a5], h.bytes, ⟨hj0.m0, hj0.m1, hj0.b0, hj0.b1, hj0.p⟩, .inr ⟨rfl, rfl, r, hr, by simp [a5], k2⟩⟩, .inr rfl⟩
  · rw [append_broken r b1] at he
    cases he
    have e : rappSt mj r ((70 : Int) == 0) = (70, mj) := by unfold rappSt; rw [b2, if_pos rfl]
    rw [e]
    exact ⟨⟨h.fit.mono (by omega), by have := h.len; simp only []; omega, h.small, h.mlen, h.bytes, h.jfit, .inr ⟨b1, b2, r0, b3, b4, b5⟩⟩, .inr rfl⟩

/-- What a list may be that Open returns. -/
def MayOpen (mj : RjS) (L : List (List UInt8)) : Prop := L = mj.l ∨ (L ≠ mj.l ∧ mj.broken = true ∧ ∃ M0 r, mj.m = M0 ++ [r] ∧ L = mj.l ++ [r])
theorem may_two {mj : RjS} {c : List UInt8} {r : List UInt8} (h : TwoWays c mj.l r) (hb : mj.broken = true) (hm : mj.m = [r]) : ∃ p L, openedL c = some (p, L) ∧ MayOpen mj L ∧ (L = mj.l ∨ L = mj.l ++ [r]) := by
  rcases h with ⟨p, h⟩ | ⟨p, h⟩
  · exact ⟨p, _, h, .inl rfl, .inl rfl⟩
  · exact ⟨p, _, h, .inr ⟨fun e => by have := congrArg List.length e; simp at this, hb, [], r, hm, rfl⟩, .inr rfl⟩
theorem Run.now {s : DSt} {j : JSt} {mj : RjS} {n : Nat} (h : Run s j mj n) : ∃ p L, openedL s.now = some (p, L) ∧ MayOpen mj L ∧ L.length ≤ n + 1 ∧ Small L := by
  have hl := h.len
  rcases h.ways with ⟨a1, a2, a3, a4, a5⟩ | ⟨b1, b2, r, b3, b4, b5⟩
  · exact ⟨_, _, a2, .inl rfl, by omega, h.small⟩
  · obtain ⟨p, L, h1, h2, h3⟩ := may_two b5.now b2 b4
    refine ⟨p, L, h1, h2, ?_, ?_⟩
    · rcases h3 with rfl | rfl
      · omega
      · simp; omega
    · rcases h3 with rfl | rfl
      · exact h.small
      · exact h.small.add b3
theorem Run.crash {s : DSt} {j : JSt} {mj : RjS} {n : Nat} (h : Run s j mj n) (q : List Int) : ∃ p L, DOn (crashedSt s q) p L 0 ∧ MayOpen mj L ∧ L.length ≤ n + 1 ∧ Small L := by
  have hl := h.len
  rcases h.ways with ⟨a1, a2, a3, a4, a5⟩ | ⟨b1, b2, r, b3, b4, b5⟩
  · exact ⟨_, _, ⟨by rw [crash_calm a1]; exact a2, rfl, h.fit.crashed q⟩, .inl rfl, by omega, h.small⟩
  · obtain ⟨p, L, h1, h2, h3⟩ := may_two (b5.crash q) b2 b4
    refine ⟨p, L, ⟨h1, rfl, h.fit.crashed q⟩, h2, ?_, ?_⟩
    · rcases h3 with rfl | rfl
      · omega
      · simp; omega
    · rcases h3 with rfl | rfl
      · exact h.small
      · exact h.small.add b3
theorem on_opens {W w : World} {m : List Item} (h : Own W w m) (i i2 : Nat) (hne : i ≠ i2) {b : Nat} {mj : RjS} (hi : m[i]? = some (.rjS b mj)) {vl : Value} {L : List (List UInt8)} (hi2 : m[i2]? = some (.sl vl 9 1 (ssv L))) (hL : L.length ≤ 2000) (hS : Small L) (hjl : mj.l.length ≤ 2000) (hjm : mj.m.length ≤ 1) (hm : MayOpen mj L) :
    Calls Try.prog 18 #[.pointer (some ⟨b, 0, none⟩), vl] w (OpensPost W m i b L) := by
  have hlb : ∀ r, r ∈ L → r.length ≤ 16777216 := fun r hr => by have := hS r hr; omega
  rcases hm with hm | hm
  · exact opens_same h i i2 hne hi hi2 (by omega) hlb (by omega) (by omega) hm
  · exact opens_maybe h i i2 hne hi hi2 (by omega) hlb (by omega) (by omega) hm
theorem on_rapp {W w : World} {m : List Item} (h : Own W w m) (i : Nat) {b : Nat} {mj : RjS} (hi : m[i]? = some (.rjS b mj)) {s : DSt} {j : JSt} {n : Nat} (hR : Run s j mj n) (hn : n ≤ 1000) (r : List UInt8) (hr : r.length ≤ 200) (pw : Bool) :
    Calls Try.prog 15 #[.pointer (some ⟨b, 0, none⟩), .string ⟨r.toArray⟩, .bool pw] w (RappPost W m i b (rappSt mj r pw).1 (rappSt mj r pw).2) := by
  have := hR.room hn
  have := hR.len
  have := hR.mlen
  exact rapp_any h i hi (by omega) (by omega) (by omega) (by omega) r (by omega) pw
end Go.Proofs.Ytcbpgmoegfkhnaa
