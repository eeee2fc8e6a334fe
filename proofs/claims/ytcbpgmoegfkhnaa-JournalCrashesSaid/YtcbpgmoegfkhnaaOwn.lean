/- Several structures in one world, each with blocks of its own, above all that was there before. No program in sight. -/
import Derived.Test.YtcbpgmoegfkhnaaMem
namespace Go.Proofs.Ytcbpgmoegfkhnaa
set_option linter.unusedVariables false
open Go.RowKit

/-- A structure in memory: what it is in a world, all its blocks in F; it stays while nothing of F changes. -/
structure Item where
  is_ : World → (Nat → Prop) → Prop
  stays : ∀ {w w' : World} {F F' S : Nat → Prop}, is_ w F → Upd S w w' → (∀ k, F k → ¬ S k) → (∀ k, F k → F' k) → is_ w' F'

def ItemAt (w : World) (F : Nat → Prop) (it : Item) : Prop := it.is_ w F
theorem ItemAt.upd {w w' : World} {F F' S : Nat → Prop} {it : Item} (h : ItemAt w F it) (hu : Upd S w w') (hS : ∀ k, F k → ¬ S k) (hF : ∀ k, F k → F' k) : ItemAt w' F' it := it.stays h hu hS hF

/-- a block whose cells are known -/
def Item.row (b : Nat) (e : TypeId) (cs : List Value) : Item := ⟨fun w F => Row w b e cs ∧ F b, fun h hu hS hF => ⟨h.1.upd hu (hS _ h.2), hF _ h.2⟩⟩
/-- a slice that may be written, alone in its block -/
def Item.sl (v : Value) (e size : Nat) (xs : List Value) : Item :=
  ⟨fun w F => ∃ n, Sl w v e size n xs ∧ ∀ k, v.ownBlock = some k → F k, fun ⟨n, h, hb⟩ hu hS hF => ⟨n, h.upd hu (fun k hk => hS k (hb k hk)), fun k hk => hF k (hb k hk)⟩⟩
/-- a slice that is only read -/
def Item.rd (v : Value) (size n : Nat) (xs : List Value) : Item :=
  ⟨fun w F => Rd w v size n xs ∧ ∀ k, v.ownBlock = some k → F k ∧ k < w.heap.size, fun ⟨h, hb⟩ hu hS hF => ⟨h.upd hu (fun k hk => ⟨(hb k hk).2, hS k (hb k hk).1⟩), fun k hk => ⟨hF k (hb k hk).1, Nat.lt_of_lt_of_le (hb k hk).2 hu.size⟩⟩⟩

def GrowO (F : Nat → Prop) (w w' : World) (k : Nat) : Prop := F k ∨ (w.heap.size ≤ k ∧ k < w'.heap.size)
def FreshO (w w' : World) (k : Nat) : Prop := w.heap.size ≤ k ∧ k < w'.heap.size
/-- In w, above all that was there in W, lie the items m, each in blocks of its own. -/
def Own (W w : World) (m : List Item) : Prop :=
  Upd (fun _ => False) W w ∧ ∃ F : Nat → Nat → Prop, (∀ i it, m[i]? = some it → ItemAt w (F i) it) ∧ (∀ i k, F i k → W.heap.size ≤ k ∧ k < w.heap.size) ∧ ∀ i j k, i ≠ j → F i k → ¬ F j k

theorem Own.start (W : World) : Own W W [] := ⟨Upd.refl _ _, fun _ _ => False, by simp, by simp, by simp⟩
theorem Own.upd {W w : World} {m : List Item} (h : Own W w m) : Upd (fun _ => False) W w := h.1

theorem Own.far {W w w' : World} {m : List Item} (h : Own W w m) (hu : Upd (fun _ => False) w w') : Own W w' m := by
  obtain ⟨h1, F, h2, h3, h4⟩ := h
  exact ⟨h1.trans hu (fun _ _ h => h), F, fun i it hi => (h2 i it hi).upd hu (fun _ _ => id) (fun _ h => h), fun i k hk => ⟨(h3 i k hk).1, Nat.lt_of_lt_of_le (h3 i k hk).2 hu.size⟩, h4⟩

theorem Own.take {W w : World} {m : List Item} (h : Own W w m) (i : Nat) {it : Item} (hi : m[i]? = some it) :
    ∃ F, ItemAt w F it ∧ (∀ k, F k → k < w.heap.size) ∧ ∀ w' it', ItemAt w' (GrowO F w w') it' → Upd F w w' → Own W w' (m.set i it') := by
  obtain ⟨h1, F, h2, h3, h4⟩ := h
  refine ⟨F i, h2 i it hi, fun k hk => (h3 i k hk).2, fun w' it' ha hu => ?_⟩
  refine ⟨h1.trans hu (fun b hb hf => by have := (h3 i b hf).1; omega), fun j k => if j = i then GrowO (F i) w w' k else F j k, ?_, ?_, ?_⟩
  · intro j it2 hj
    by_cases hji : j = i
    · subst hji
      have hlt : j < m.length := by
        rcases Nat.lt_or_ge j m.length with h | h
        · exact h
        · rw [List.getElem?_eq_none h] at hi; cases hi
      rw [List.getElem?_set_self hlt] at hj
      cases hj
      simpa using ha
    · rw [List.getElem?_set_ne (Ne.symm hji)] at hj
      simp only [hji, if_false]
      exact (h2 j it2 hj).upd hu (fun k hk => h4 j i k hji hk) (fun _ h => h)
  · intro j k hk
    by_cases hji : j = i
    · subst hji
      simp only [if_true] at hk
      rcases hk with hk | hk
      · exact ⟨(h3 j k hk).1, Nat.lt_of_lt_of_le (h3 j k hk).2 hu.size⟩
      · exact ⟨Nat.le_trans h1.size hk.1, hk.2⟩
    · simp only [hji, if_false] at hk
      exact ⟨(h3 j k hk).1, Nat.lt_of_lt_of_le (h3 j k hk).2 hu.size⟩
  · intro j j' k hne hk hk'
    by_cases hji : j = i
    · by_cases hji' : j' = i
      · omega
      · simp only [hji, if_true] at hk
        simp only [hji', if_false] at hk'
        rcases hk with hk | hk
        · exact h4 i j' k (by omega) hk hk'
        · have := (h3 j' k hk').2; omega
    · simp only [hji, if_false] at hk
      by_cases hji' : j' = i
      · simp only [hji', if_true] at hk'
        rcases hk' with hk' | hk'
        · exact h4 i j k (by omega) hk' hk
        · have := (h3 j k hk).2; omega
      · simp only [hji', if_false] at hk'
        exact h4 j j' k hne hk hk'

theorem Own.more {W w w' : World} {m : List Item} (h : Own W w m) {it : Item} (hu : Upd (fun _ => False) w w') (hi : ItemAt w' (FreshO w w') it) : Own W w' (it :: m) := by
  obtain ⟨h1, F, h2, h3, h4⟩ := h
  refine ⟨h1.trans hu (fun _ _ h => h), fun j k => match j with | 0 => FreshO w w' k | j + 1 => F j k, ?_, ?_, ?_⟩
  · intro j it2 hj
    cases j with
    | zero => cases hj; exact hi
    | succ j => exact (h2 j it2 hj).upd hu (fun _ _ => id) (fun _ h => h)
  · intro j k hk
    cases j with
    | zero => exact ⟨Nat.le_trans h1.size hk.1, hk.2⟩
    | succ j => exact ⟨(h3 j k hk).1, Nat.lt_of_lt_of_le (h3 j k hk).2 hu.size⟩
  · intro i j k hne hk hk'
    cases i with
    | zero =>
      cases j with
      | zero => omega
      | succ j => have := (h3 j k hk').2; have := hk.1; omega
    | succ i =>
      cases j with
      | zero => have := (h3 i k hk).2; have := hk'.1; omega
      | succ j => exact h4 i j k (by omega) hk hk'

theorem Own.pick {W w : World} {m m' : List Item} (h : Own W w m) (f : Nat → Nat) (hf : ∀ i j, f i = f j → i = j) (hm : ∀ i it, m'[i]? = some it → m[f i]? = some it) : Own W w m' := by
  obtain ⟨h1, F, h2, h3, h4⟩ := h
  exact ⟨h1, fun i => F (f i), fun i it hi => h2 _ it (hm i it hi), fun i k hk => h3 _ k hk, fun i j k hne => h4 _ _ k (fun he => hne (hf i j he))⟩
theorem Own.swap {W w : World} {a b : Item} {m : List Item} (h : Own W w (a :: b :: m)) : Own W w (b :: a :: m) := by
  refine h.pick (fun i => match i with | 0 => 1 | 1 => 0 | i + 2 => i + 2) ?_ ?_
  · intro i j h
    match i, j with
    | 0, 0 => rfl
    | 0, 1 => cases h
    | 0, j + 2 => simp at h
    | 1, 0 => cases h
    | 1, 1 => rfl
    | 1, j + 2 => simp at h
    | i + 2, 0 => simp at h
    | i + 2, 1 => simp at h
    | i + 2, j + 2 => simpa using h
  · intro i it hi
    match i with
    | 0 => exact hi
    | 1 => exact hi
    | i + 2 => exact hi
theorem Own.tail {W w : World} {a : Item} {m : List Item} (h : Own W w (a :: m)) : Own W w m := h.pick (· + 1) (fun _ _ h => by omega) (fun _ _ h => h)
theorem Own.drop1 {W w : World} {a b : Item} {m : List Item} (h : Own W w (a :: b :: m)) : Own W w (a :: m) := h.swap.tail
theorem Own.swap2 {W w : World} {a b c : Item} {m : List Item} (h : Own W w (a :: b :: c :: m)) : Own W w (a :: c :: b :: m) := by
  refine h.pick (fun i => match i with | 0 => 0 | 1 => 2 | 2 => 1 | i + 3 => i + 3) ?_ ?_
  · intro i j h
    match i, j with
    | 0, 0 => rfl
    | 0, 1 => cases h
    | 0, 2 => cases h
    | 0, j + 3 => simp at h
    | 1, 0 => cases h
    | 1, 1 => rfl
    | 1, 2 => cases h
    | 1, j + 3 => simp at h
    | 2, 0 => cases h
    | 2, 1 => cases h
    | 2, 2 => rfl
    | 2, j + 3 => simp at h
    | i + 3, 0 => simp at h
    | i + 3, 1 => simp at h
    | i + 3, 2 => simp at h
    | i + 3, j + 3 => simpa using h
  · intro i it hi
    match i with
    | 0 => exact hi
    | 1 => exact hi
    | 2 => exact hi
    | i + 3 => exact hi

theorem Own.row {W w : World} {m : List Item} (h : Own W w m) (i : Nat) {b : Nat} {e : TypeId} {cs : List Value} (hi : m[i]? = some (.row b e cs)) : Row w b e cs := by
  obtain ⟨_, F, h2, _⟩ := h
  exact (h2 i _ hi).1
theorem Own.setRow {W w : World} {m : List Item} (h : Own W w m) (i : Nat) {b : Nat} {e : TypeId} {cs : List Value} (hi : m[i]? = some (.row b e cs)) (j : Nat) (u : Value) : Own W (w.setCell ⟨b, j, none⟩ u) (m.set i (.row b e (cs.set j u))) := by
  obtain ⟨F, h1, h2, h3⟩ := h.take i hi
  exact h3 _ _ ⟨h1.1.set j u, .inl h1.2⟩ ((Upd.refl F w).setCell (fun _ => h1.2) u)
theorem Own.newRow {W w : World} {m : List Item} (h : Own W w m) (e : TypeId) (cs : Array Value) : Own W (w.alloc (.cells cs e)) (.row w.heap.size e cs.toList :: m) :=
  h.more ((Upd.refl _ w).alloc _) ⟨Row.new w e cs, Nat.le_refl _, by simp⟩
theorem Own.rd {W w : World} {m : List Item} (h : Own W w m) {v : Value} {size n : Nat} {xs : List Value} (hr : Rd W v size n xs) (hb : ∀ k, v.ownBlock = some k → k < W.heap.size) : Rd w v size n xs ∧ ∀ k, v.ownBlock = some k → k < w.heap.size :=
  ⟨hr.upd h.1 (fun k hk => ⟨hb k hk, id⟩), fun k hk => Nat.lt_of_lt_of_le (hb k hk) h.1.size⟩
theorem Own.erase {W w : World} {m : List Item} (h : Own W w m) (k : Nat) : Own W w (m.eraseIdx k) := by
  refine h.pick (fun i => if i < k then i else i + 1) ?_ ?_
  · intro i j
    split <;> split <;> omega
  · intro i it hi
    rw [List.getElem?_eraseIdx] at hi
    split <;> simp_all
theorem Own.drew {W w : World} {m : List Item} (h : Own W w m) : Own W w.drew m := h.far ((Upd.refl _ w).drew)
theorem Own.drewN {W w : World} {m : List Item} (h : Own W w m) (n : Nat) : Own W (w.drewN n) m := h.far ((Upd.refl _ w).drewN n)
theorem Own.front {W w : World} {m : List Item} (h : Own W w m) (i : Nat) {it : Item} (hi : m[i]? = some it) : Own W w (it :: m.eraseIdx i) := by
  refine h.pick (fun j => if j = 0 then i else if j - 1 < i then j - 1 else j) ?_ ?_
  · intro a b
    split <;> split <;> (try split) <;> (try split) <;> omega
  · intro j x hj
    cases j with
    | zero => cases hj; simpa using hi
    | succ j =>
      have hj2 : (m.eraseIdx i)[j]? = some x := hj
      rw [List.getElem?_eraseIdx] at hj2
      rw [if_neg (by omega)]
      split at hj2
      · rw [if_pos (by omega)]; simpa using hj2
      · rw [if_neg (by omega)]; exact hj2
theorem set_same {m : List Item} (i : Nat) {it : Item} (hi : m[i]? = some it) : m.set i it = m := by
  apply List.ext_getElem?
  intro j
  rw [List.getElem?_set]
  split
  · subst_vars; split
    · exact hi.symm
    · rename_i h2; rw [List.getElem?_eq_none (by omega)]
  · rfl

theorem Own.item {W w : World} {m : List Item} (h : Own W w m) (i : Nat) {it : Item} (hi : m[i]? = some it) : ∃ F, ItemAt w F it ∧ ∀ k, F k → W.heap.size ≤ k ∧ k < w.heap.size := by
  obtain ⟨_, F, h2, h3, _⟩ := h
  exact ⟨F i, h2 i it hi, h3 i⟩
/-- An item turns into another that needs no more blocks. -/
theorem Own.turn {W w : World} {m : List Item} (h : Own W w m) (i : Nat) {it it' : Item} (hi : m[i]? = some it) (ht : ∀ F, ItemAt w F it → ItemAt w F it') : Own W w (m.set i it') := by
  obtain ⟨F, ha, hb, hc⟩ := h.take i hi
  exact hc w it' ((ht F ha).upd (Upd.refl (fun _ => False) w) (fun _ _ => id) (fun k hk => .inl hk)) (Upd.refl _ _)
theorem Own.newRow_at {W w : World} {m : List Item} (h : Own W w m) {g : Nat} (hg : w.heap.size = g) (e : TypeId) (cs : Array Value) : Own W (w.alloc (.cells cs e)) (.row g e cs.toList :: m) := by
  subst hg
  exact h.newRow e cs
/-- Two structures that were laid together. -/
theorem Own.more2 {W w w' : World} {m : List Item} (h : Own W w m) {a b : Item} (hu : Upd (fun _ => False) w w') (Fa Fb : Nat → Prop) (ha : ItemAt w' Fa a) (hb : ItemAt w' Fb b)
    (hFa : ∀ k, Fa k → FreshO w w' k) (hFb : ∀ k, Fb k → FreshO w w' k) (hab : ∀ k, Fa k → ¬ Fb k) : Own W w' (a :: b :: m) := by
  obtain ⟨h1, F, h2, h3, h4⟩ := h
  refine ⟨h1.trans hu (fun _ _ h => h), fun j k => match j with | 0 => Fa k | 1 => Fb k | j + 2 => F j k, ?_, ?_, ?_⟩
  · intro j it2 hj
    match j with
    | 0 => cases hj; exact ha
    | 1 => cases hj; exact hb
    | j + 2 => exact (h2 j it2 hj).upd hu (fun _ _ => id) (fun _ h => h)
  · intro j k hk
    match j with
    | 0 => exact ⟨Nat.le_trans h1.size (hFa k hk).1, (hFa k hk).2⟩
    | 1 => exact ⟨Nat.le_trans h1.size (hFb k hk).1, (hFb k hk).2⟩
    | j + 2 => exact ⟨(h3 j k hk).1, Nat.lt_of_lt_of_le (h3 j k hk).2 hu.size⟩
  · intro i j k hne hk hk'
    match i, j with
    | 0, 0 => omega
    | 0, 1 => exact hab k hk hk'
    | 0, j + 2 => have := (h3 j k hk').2; have := (hFa k hk).1; omega
    | 1, 0 => exact hab k hk' hk
    | 1, 1 => omega
    | 1, j + 2 => have := (h3 j k hk').2; have := (hFb k hk).1; omega
    | i + 2, 0 => have := (h3 i k hk).2; have := (hFa k hk').1; omega
    | i + 2, 1 => have := (h3 i k hk).2; have := (hFb k hk').1; omega
    | i + 2, j + 2 => exact h4 i j k (by omega) hk hk'
def IPost (W : World) (m : List Item) (i : Nat) (r : Int) (it : Item) (e : Ending) (w' : World) : Prop := e = .returned (.int .i64 r) ∧ Own W w' (m.set i it)
def XPost (W : World) (m : List Item) (v : Value) (e : Ending) (w' : World) : Prop := e = .returned v ∧ Own W w' m
def NPost (W : World) (m : List Item) (f : Nat → Item) (e : Ending) (w' : World) : Prop := ∃ b, e = .returned (.pointer (some ⟨b, 0, none⟩)) ∧ Own W w' (f b :: m)
def in64 (x : Int) : Prop := -9223372036854775808 ≤ x ∧ x ≤ 9223372036854775807
def Sane (w : World) (e : Ending) (w' : World) : Prop := e = .returned (.bool true) ∧ Upd (fun _ => False) w w'
end Go.Proofs.Ytcbpgmoegfkhnaa
