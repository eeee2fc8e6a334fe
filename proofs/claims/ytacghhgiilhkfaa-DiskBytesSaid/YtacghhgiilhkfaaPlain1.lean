/- Plain laws about contents after a crash: no program in sight. -/
import Derived.Test.YtacghhgiilhkfaaDesk2
namespace Go.Proofs.Ytacghhgiilhkfaa
set_option linter.unusedVariables false

theorem putL_get (c : List UInt8) (o : Nat) (t : List UInt8) (i : Nat) :
    (putL c o t)[i]? = if o ≤ i ∧ i < o + t.length then t[i - o]? else if i < c.length then c[i]? else if i < o then some 0 else none := by
  have hlen : (c ++ List.replicate (o + t.length - c.length) 0).length = max c.length (o + t.length) := by simp; omega
  unfold putL
  generalize hp : c ++ List.replicate (o + t.length - c.length) (0 : UInt8) = p at hlen
  have hpi : ∀ j, p[j]? = if j < c.length then c[j]? else if j < o + t.length then some 0 else none := by
    intro j
    rw [← hp, List.getElem?_append]
    split
    · rfl
    · rw [List.getElem?_replicate]
      split <;> split <;> first | rfl | omega
  have htl : (p.take o).length = o := by rw [List.length_take]; omega
  rw [List.getElem?_append, htl]
  by_cases h1 : i < o
  · rw [if_pos h1, if_neg (by omega), List.getElem?_take, if_pos h1, hpi]
    by_cases h2 : i < c.length
    · rw [if_pos h2, if_pos h2]
    · rw [if_neg h2, if_neg h2, if_pos (by omega), if_pos h1]
  · rw [if_neg h1, List.getElem?_append]
    by_cases h2 : i - o < t.length
    · rw [if_pos h2, if_pos (by omega)]
    · rw [if_neg h2, if_neg (by omega), List.getElem?_drop, hpi, show o + t.length + (i - o - t.length) = i by omega]
      by_cases h3 : i < c.length
      · rw [if_pos h3, if_pos h3]
      · rw [if_neg h3, if_neg h3, if_neg (by omega), if_neg (by omega)]

theorem cutL_bytes : ∀ (k off : Nat) (l : List UInt8) (p : Nat × List UInt8), p ∈ cutL k off l → ∀ x, x ∈ p.2 → x ∈ l
  | 0, _, _, _, h => by simp [cutL] at h
  | k + 1, off, l, p, h => by
    simp only [cutL] at h
    split at h
    · simp at h
    · rcases List.mem_cons.1 h with rfl | h
      · intro x hx
        exact List.mem_of_mem_take hx
      · intro x hx
        exact List.mem_of_mem_drop (cutL_bytes k _ _ p h x hx)
theorem crashL_keeps (q : List Int) (P : List UInt8 → Prop) : ∀ (ps : List (Nat × List UInt8)) (k : Nat) (c : List UInt8), P c → (∀ p c, p ∈ ps → P c → P (putL c p.1 p.2)) → P (crashL q k ps c)
  | [], _, _, h, _ => h
  | p :: ps, k, c, h, hp => by
    simp only [crashL]
    apply crashL_keeps q P ps (k + 1)
    · split
      · exact hp p c (by simp) h
      · exact h
    · exact fun x c hx hc => hp x c (by simp [hx]) hc

/-- each byte is the old one, or the new one, or a zero in the gap -/
def GoodB (a : List UInt8) (off n : Nat) (c : List UInt8) : Prop :=
  a.length ≤ c.length ∧ c.length ≤ max a.length (off + n) ∧ ∀ i x, c[i]? = some x → a[i]? = some x ∨ (off ≤ i ∧ i < off + n ∧ x = 238) ∨ (a.length ≤ i ∧ x = 0)

theorem GoodB.put {a c : List UInt8} {off n : Nat} (h : GoodB a off n c) (p : Nat × List UInt8) (h1 : off ≤ p.1) (h2 : p.1 + p.2.length ≤ off + n) (h3 : ∀ x, x ∈ p.2 → x = 238) : GoodB a off n (putL c p.1 p.2) := by
  obtain ⟨g1, g2, g3⟩ := h
  refine ⟨by rw [putL_length]; omega, by rw [putL_length]; omega, ?_⟩
  intro i x hx
  rw [putL_get] at hx
  split at hx
  · rename_i hb
    exact .inr (.inl ⟨by omega, by omega, h3 x (List.mem_of_getElem? hx)⟩)
  · split at hx
    · exact g3 i x hx
    · split at hx
      · cases hx
        exact .inr (.inr ⟨by omega, rfl⟩)
      · cases hx
theorem good_crash (q : List Int) (a : List UInt8) (off n : Nat) : GoodB a off n (crashL q 0 (pcsL off (List.replicate n 238)) a) := by
  apply crashL_keeps q
  · exact ⟨Nat.le_refl _, by omega, fun i x h => .inl h⟩
  · intro p c hp hc
    have hm := pcsL_mem hp
    rw [List.length_replicate] at hm
    exact hc.put p hm.1 hm.2 (fun x hx => by
      have := cutL_bytes _ _ _ _ hp x hx
      exact (List.mem_replicate.1 this).2)
theorem putL_nil (l : List UInt8) : putL [] 0 l = l := by
  unfold putL
  simp
theorem readL_all (c : List UInt8) : readL c 0 c.length = c := by
  unfold readL
  by_cases h : (c.length : Int) < 1
  · have : c = [] := List.length_eq_zero_iff.1 (by omega)
    subst this
    simp
  · rw [if_neg (by omega)]
    simp
theorem crash_keeps (q : List Int) (a t : List UInt8) (off : Nat) (h : a.length ≤ off) : a.length ≤ (crashL q 0 (pcsL off t) a).length ∧ (crashL q 0 (pcsL off t) a).take a.length = a := by
  apply crashL_keeps q (fun c => a.length ≤ c.length ∧ c.take a.length = a)
  · exact ⟨Nat.le_refl _, List.take_length⟩
  · intro p c hp hc
    have hm := pcsL_mem hp
    refine ⟨by rw [putL_length]; omega, ?_⟩
    rw [← hc.2]
    apply List.ext_getElem?
    intro i
    rw [List.getElem?_take, List.length_take, Nat.min_eq_left hc.1, List.getElem?_take]
    split
    · rw [putL_get, if_neg (by omega), if_pos (by omega)]
    · rfl
theorem small_write {s : DSt} (hf : s.failing = false) (hl : s.now.length ≤ 203) (x n : Int) (t : List UInt8) :
    (doSt s ⟨0, x.tmod 4, n, t⟩).failing = false ∧ (doSt s ⟨0, x.tmod 4, n, t⟩).now.length ≤ 203 := by
  have h0 : modI 0 8 = 0 := by decide
  have hlt : x.tmod 4 < 4 := Int.tmod_lt_of_pos x (by decide)
  have hll := longL_le ⟨0, x.tmod 4, n, t⟩
  have hw : whereI ⟨0, x.tmod 4, n, t⟩ < 4 := by
    unfold whereI
    split
    · rename_i h
      simp only at h ⊢
      omega
    · simp only
      rw [modI_eq]
      rename_i h
      simp only at h
      omega
  unfold doSt
  simp only [h0]
  rw [if_neg (by decide), if_neg (by decide), if_neg (by decide), if_neg (by decide)]
  unfold writeSt
  split
  · exact ⟨hf, hl⟩
  · split
    · exact ⟨hf, hl⟩
    · refine ⟨hf, ?_⟩
      simp only [wroteSt, putL_length]
      omega
theorem readL_take (c a : List UInt8) (h1 : a.length ≤ c.length) (h : c.take a.length = a) : readL c 0 a.length = readL a 0 a.length := by
  rw [readL_all a]
  unfold readL
  by_cases h0 : (a.length : Int) < 1
  · have : a = [] := List.length_eq_zero_iff.1 (by omega)
    subst this
    simp
  · rw [if_neg (by omega)]
    simp only [Int.toNat_natCast, Int.toNat_zero, Nat.sub_zero, List.drop_zero]
    rw [Nat.min_eq_left h1, h]
end Go.Proofs.Ytacghhgiilhkfaa
