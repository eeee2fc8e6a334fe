/- Journals: what contents mean, and what a crash may leave. No walk. -/
import Derived.Test.YtcbpgmoegfkhnaaJappend
namespace Go.Proofs.Ytcbpgmoegfkhnaa
set_option linter.unusedVariables false

theorem putL_get (c : List UInt8) (o : Nat) (t : List UInt8) (i : Nat) :
    (putL c o t)[i]? = if o ≤ i ∧ i < o + t.length then t[i - o]? else if i < c.length then c[i]? else if i < o then some 0 else none := by
  have hlen : (c ++ List.replicate (o + t.length - c.length) 0).length = max c.length (o + t.length) := by simp; omega
  unfold putL
  generalize hp : c ++ List.replicate (o + t.length - c.length) (0 : UInt8) = p at hlen
  have hpi : ∀ j, p[j]? = if j < c.length then c[j]? else if j < o + t.length then some 0 else none := by
    intro j
    rw [← hp, List.getElem?_append]
    split
    · rfl
    · rw [List.getElem?_replicate]
      split <;> split <;> first | rfl | omega
  have htl : (p.take o).length = o := by rw [List.length_take]; omega
  rw [List.getElem?_append, htl]
  by_cases h1 : i < o
  · rw [if_pos h1, if_neg (by omega), List.getElem?_take, if_pos h1, hpi]
    by_cases h2 : i < c.length
    · rw [if_pos h2, if_pos h2]
    · rw [if_neg h2, if_neg h2, if_pos (by omega), if_pos h1]
  · rw [if_neg h1, List.getElem?_append]
    by_cases h2 : i - o < t.length
    · rw [if_pos h2, if_pos (by omega)]
    · rw [if_neg h2, if_neg (by omega), List.getElem?_drop, hpi, show o + t.length + (i - o - t.length) = i by omega]
      by_cases h3 : i < c.length
      · rw [if_pos h3, if_pos h3]
      · rw [if_neg h3, if_neg h3, if_neg (by omega), if_neg (by omega)]

theorem crashL_keeps (q : List Int) (P : List UInt8 → Prop) : ∀ (ps : List (Nat × List UInt8)) (k : Nat) (c : List UInt8), P c → (∀ p c, p ∈ ps → P c → P (putL c p.1 p.2)) → P (crashL q k ps c)
  | [], _, _, h, _ => h
  | p :: ps, k, c, h, hp => by
    simp only [crashL]
    apply crashL_keeps q P ps (k + 1)
    · split
      · exact hp p c (by simp) h
      · exact h
    · exact fun x c hx hc => hp x c (by simp [hx]) hc


theorem putL_getD (c : List UInt8) (o : Nat) (t : List UInt8) (i : Nat) : (putL c o t).getD i 0 = if o ≤ i ∧ i < o + t.length then t.getD (i - o) 0 else c.getD i 0 := by
  rw [List.getD_eq_getElem?_getD, List.getD_eq_getElem?_getD, List.getD_eq_getElem?_getD, putL_get]
  split
  · rfl
  · split
    · rfl
    · rename_i h
      rw [List.getElem?_eq_none (by omega)]
      split <;> rfl
theorem readL_getD (c : List UInt8) (a n i : Nat) : (readL c a n).getD i 0 = if i < n then c.getD (a + i) 0 else 0 := by
  unfold readL
  rw [List.getD_eq_getElem?_getD, List.getD_eq_getElem?_getD]
  split
  · rename_i h
    split
    · rw [List.getElem?_eq_none (l := c) (by omega)]
      simp
    · simp
  · rename_i h
    rw [List.getElem?_take, Int.toNat_natCast, Int.toNat_natCast, List.getElem?_drop]
    split
    · rw [if_pos (by omega)]
    · split
      · rw [List.getElem?_eq_none (by omega)]
      · rfl
/-- two contents are alike from an offset to another one; bytes that are missing are zeros -/
def AlikeR (lo m : Nat) (c c' : List UInt8) : Prop := ∀ i, lo ≤ i → i < m → c'.getD i 0 = c.getD i 0
abbrev Alike (m : Nat) (c c' : List UInt8) : Prop := AlikeR 0 m c c'
theorem AlikeR.mono {lo lo' m n : Nat} {c c' : List UInt8} (h : AlikeR lo m c c') (hl : lo ≤ lo') (hn : n ≤ m) : AlikeR lo' n c c' := fun i h1 hi => h i (by omega) (by omega)
theorem AlikeR.refl (lo m : Nat) (c : List UInt8) : AlikeR lo m c c := fun _ _ _ => rfl
theorem AlikeR.trans {lo m : Nat} {a b c : List UInt8} (h : AlikeR lo m a b) (k : AlikeR lo m b c) : AlikeR lo m a c := fun i h1 hi => (k i h1 hi).trans (h i h1 hi)
theorem val_alike {lo m : Nat} {c c' : List UInt8} (h : AlikeR lo m c c') (a k : Nat) (hl : lo ≤ a) (ha : a + k ≤ m) : valI (readL c' a k) k = valI (readL c a k) k :=
  valI_congr fun i hi => by rw [readL_getD, readL_getD, if_pos hi, if_pos hi, h (a + i) (by omega) (by omega)]
theorem val_alike4 {lo m : Nat} {c c' : List UInt8} (h : AlikeR lo m c c') (a : Nat) (hl : lo ≤ a) (ha : a + 4 ≤ m) : valI (readL c' a 4) 4 = valI (readL c a 4) 4 := val_alike h a 4 hl ha
theorem val_alike8 {lo m : Nat} {c c' : List UInt8} (h : AlikeR lo m c c') (hl : lo ≤ 0) (ha : 8 ≤ m) : valI (readL c' 0 8) 8 = valI (readL c 0 8) 8 := val_alike h 0 8 hl (by omega)
theorem readL_getD4 (c : List UInt8) (a i : Nat) (hi : i < 4) : (readL c a 4).getD i 0 = c.getD (a + i) 0 := by
  have := readL_getD c a 4 i
  rw [if_pos hi] at this
  exact this
theorem readL_getD8 (c : List UInt8) (i : Nat) (hi : i < 8) : (readL c 0 8).getD i 0 = c.getD i 0 := by
  have := readL_getD c 0 8 i
  rw [if_pos hi, Nat.zero_add] at this
  exact this
theorem readL_len (c : List UInt8) (a n : Nat) (h : a + n ≤ c.length) : (readL c a n).length = n := by
  unfold readL
  split
  · rename_i h'
    simp
    omega
  · simp; omega
theorem list_getD {a b : List UInt8} (hl : a.length = b.length) (h : ∀ i, i < a.length → a.getD i 0 = b.getD i 0) : a = b := by
  apply List.ext_getElem hl
  intro i h1 h2
  have := h i h1
  simpa [List.getD, h1, h2] using this
theorem read_alike {lo m : Nat} {c c' : List UInt8} (h : AlikeR lo m c c') (a k : Nat) (hlo : lo ≤ a) (ha : a + k ≤ m) (hc : a + k ≤ c.length) (hc' : a + k ≤ c'.length) : readL c' a k = readL c a k := by
  refine list_getD (by rw [readL_len _ _ _ hc, readL_len _ _ _ hc']) fun i hi => ?_
  rw [readL_len _ _ _ hc'] at hi
  rw [readL_getD, readL_getD, if_pos hi, if_pos hi, h (a + i) (by omega) (by omega)]
theorem recs_alike {e : Nat} {c c' : List UInt8} (h : AlikeR 64 e c c') (hc : e ≤ c.length) (hc' : e ≤ c'.length) : ∀ (f a : Nat), 64 ≤ a → recsL c' f a e = recsL c f a e
  | 0, _, _ => rfl
  | f + 1, a, h64 => by
    simp only [recsL]
    by_cases h1 : a < e
    · rw [if_pos h1, if_pos h1]
      by_cases h4 : a + 4 ≤ e
      · have hv : valI (readL c' a 4) 4 = valI (readL c a 4) 4 := val_alike4 h a h64 h4
        obtain ⟨n, hn⟩ : ∃ n : Nat, valI (readL c a 4) 4 = n := ⟨(valI (readL c a 4) 4).toNat, by have := (valI_four (readL c a 4)).1; omega⟩
        rw [hv, hn, Int.toNat_natCast]
        by_cases hb : e < a + 4 + n
        · rw [if_pos hb, if_pos hb]
        · rw [if_neg hb, if_neg hb, recs_alike h hc hc' f _ (by omega), read_alike h (a + 4) n (by omega) (by omega) (by omega) (by omega)]
      · rw [if_pos (by omega), if_pos (by omega)]
    · rw [if_neg h1, if_neg h1]

theorem openedL_some {c : List UInt8} {n : Nat} {L : List (List UInt8)} (h : openedL c = some (n, L)) :
    valI (readL c 0 8) 8 = n ∧ n ≤ 16777216 ∧ (n = 0 ∨ 64 + n ≤ c.length) ∧ (recsL c n 64 (64 + n)).all (·.2) = true ∧ (recsL c n 64 (64 + n)).map (·.1) = L := by
  unfold openedL at h
  split at h
  · cases h
  · rename_i hv
    split at h
    · rename_i ha
      simp only [Option.some.injEq, Prod.mk.injEq] at h
      obtain ⟨rfl, rfl⟩ := h
      refine ⟨by omega, by omega, by omega, ha, rfl⟩
    · cases h
theorem openedL_mk {c : List UInt8} {n : Nat} (h1 : valI (readL c 0 8) 8 = n) (h2 : n ≤ 16777216) (h3 : n = 0 ∨ 64 + n ≤ c.length) (h4 : (recsL c n 64 (64 + n)).all (·.2) = true) :
    openedL c = some (n, (recsL c n 64 (64 + n)).map (·.1)) := by
  unfold openedL
  rw [h1, if_neg (by omega), Int.toNat_natCast, if_pos h4]
theorem opened_alike {c c' : List UInt8} {n : Nat} {L : List (List UInt8)} (h : openedL c = some (n, L)) (ha : Alike (64 + n) c c') (hl : n = 0 ∨ 64 + n ≤ c'.length) : openedL c' = some (n, L) := by
  obtain ⟨h1, h2, h3, h4, h5⟩ := openedL_some h
  have hv : valI (readL c' 0 8) 8 = n := (val_alike8 ha (Nat.le_refl _) (by omega)).trans h1
  have hr : recsL c' n 64 (64 + n) = recsL c n 64 (64 + n) := by
    rcases Nat.eq_zero_or_pos n with h0 | h0
    · subst h0; rfl
    · exact recs_alike (ha.mono (Nat.zero_le _) (Nat.le_refl _)) (by omega) (by omega) n 64 (Nat.le_refl _)
  rw [← h5, ← hr]
  exact openedL_mk hv h2 hl (by rw [hr]; exact h4)
theorem opened_empty : openedL [] = some (0, []) := by decide +kernel

theorem recs_more {e k : Nat} {r : List UInt8} {c c' : List UInt8} (hk : r.length = k) (hk2 : k < 4294967296) (h : AlikeR 64 e c c') (hc : e = 64 ∨ e ≤ c.length) (hc' : e + 4 + k ≤ c'.length) (hrec : ∀ i, i < 4 + k → c'.getD (e + i) 0 = (numL k 4 ++ r).getD i 0) :
    ∀ (f f' a : Nat), a ≤ e → 64 ≤ a → e - a ≤ f → e + 4 + k - a ≤ f' → (recsL c f a e).all (·.2) = true → recsL c' f' a (e + 4 + k) = recsL c f a e ++ [(r, true)]
  | f, 0, a, h1, _, _, h3, _ => by omega
  | f, f' + 1, a, h1, h64, h2, h3, hall => by
    by_cases hlt : a < e
    · obtain ⟨f0, rfl⟩ : ∃ f0, f = f0 + 1 := ⟨f - 1, by omega⟩
      simp only [recsL] at hall ⊢
      rw [if_pos hlt] at hall ⊢
      rw [if_pos (by omega)]
      obtain ⟨n, hn⟩ : ∃ n : Nat, valI (readL c a 4) 4 = n := ⟨(valI (readL c a 4) 4).toNat, by have := (valI_four (readL c a 4)).1; omega⟩
      rw [hn, Int.toNat_natCast] at hall ⊢
      by_cases hb : e < a + 4 + n
      · rw [if_pos hb] at hall
        simp at hall
      · rw [if_neg hb] at hall ⊢
        have hv : valI (readL c' a 4) 4 = n := (val_alike4 h a h64 (by omega)).trans hn
        rw [hv, Int.toNat_natCast, if_neg (by omega), recs_more hk hk2 h hc hc' hrec f0 f' (a + 4 + n) (by omega) (by omega) (by omega) (by omega) (by simpa using hall), read_alike h (a + 4) n (by omega) (by omega) (by omega) (by omega)]
        rfl
    · obtain rfl : a = e := by omega
      rw [recsL_end c (by omega)]
      simp only [recsL]
      rw [if_pos (by omega)]
      have hv : valI (readL c' a 4) 4 = k := by
        rw [← valI_num k 4 r (by omega) (by omega)]
        exact valI_congr fun i hi => by rw [readL_getD4 _ _ _ hi, hrec i (by omega)]
      rw [hv, Int.toNat_natCast, if_neg (by omega), recsL_end c' (by omega)]
      have hr : readL c' (a + 4 : Nat) k = r := by
        refine list_getD (by rw [readL_len _ _ _ (by omega), hk]) fun i hi => ?_
        rw [readL_len _ _ _ (by omega)] at hi
        rw [readL_getD, if_pos hi, show a + 4 + i = a + (4 + i) by omega, hrec (4 + i) (by omega)]
        rw [List.getD_eq_getElem?_getD, List.getElem?_append_right (by rw [numL_length]; omega), numL_length, show 4 + i - 4 = i by omega, List.getD_eq_getElem?_getD]
      rw [hr]
      rfl

/-- The header is written behind the record. -/
theorem opened_more {c c1 : List UInt8} {n : Nat} {L : List (List UInt8)} {r : List UInt8} (h : openedL c = some (n, L)) (ha : Alike (64 + n) c c1) (hfit : n + 4 + r.length ≤ 16777216)
    (hl : 64 + n + (4 + r.length) ≤ c1.length) (hrec : ∀ i, i < 4 + r.length → c1.getD (64 + n + i) 0 = (numL r.length 4 ++ r).getD i 0) : openedL (putL c1 0 (numL (n + 4 + r.length) 8)) = some (n + 4 + r.length, L ++ [r]) := by
  obtain ⟨h1, h2, h3, h4, h5⟩ := openedL_some h
  obtain ⟨c2, hc2⟩ : ∃ c2, c2 = putL c1 0 (numL (n + 4 + r.length) 8) := ⟨_, rfl⟩
  rw [← hc2]
  have hlen : c1.length ≤ c2.length := by rw [hc2, putL_length]; omega
  have hfar : ∀ i, 8 ≤ i → c2.getD i 0 = c1.getD i 0 := fun i hi => by rw [hc2, putL_getD, numL_length, if_neg (by omega)]
  have hv : valI (readL c2 0 8) 8 = (n + 4 + r.length : Nat) := by
    rw [← valI_num (n + 4 + r.length) 8 [] (by omega) (by omega)]
    refine valI_congr fun i hi => ?_
    rw [readL_getD8 _ _ hi, hc2, putL_getD, numL_length, if_pos (by omega), List.append_nil]
    simp
  have hrm : recsL c2 (n + 4 + r.length) 64 (64 + n + 4 + r.length) = recsL c n 64 (64 + n) ++ [(r, true)] := by
    have hal : AlikeR 64 (64 + n) c c2 := fun i h1 hi => by rw [hfar i (by omega), ha i (by omega) hi]
    exact recs_more rfl (by omega) hal (by omega) (by omega) (fun i hi => by rw [hfar _ (by omega)]; exact hrec i hi) n (n + 4 + r.length) 64 (by omega) (Nat.le_refl _) (by omega) (by omega) h4
  rw [show 64 + n + 4 + r.length = 64 + (n + 4 + r.length) by omega] at hrm
  have := openedL_mk hv hfit (.inr (by omega)) (by rw [hrm]; simp [h4])
  rw [this, hrm]
  simp [h5]
end Go.Proofs.Ytcbpgmoegfkhnaa
