/- journal: Open. -/
import Derived.Test.YtcbpgmoegfkhnaaJrec
import Derived.Deep.RegionHeld3
namespace Go.Proofs.Ytcbpgmoegfkhnaa
set_option linter.unusedVariables false
open Go.RowKit Go.Shelf
attribute [local go_sem] Oper.semAt_some

def ssv (L : List (List UInt8)) : List Value := L.map fun l => .string ⟨l.toArray⟩
theorem ssv_length (L : List (List UInt8)) : (ssv L).length = L.length := by simp [ssv]
theorem T_strs : SlT Try.prog 22 9 1 16 (.string ⟨#[]⟩) := SlT.of Try.underlying22 (by kernel_rfl) rfl

theorem records_any (w : World) (bd : Nat) (e : Int) :
    Calls Try.prog 26 #[.pointer (some ⟨bd, 0, none⟩), .int .i64 e] w fun r w' => r = .returned (.func (.func 37) #[] #[.pointer (some ⟨w.heap.size + 1, 0, none⟩), .pointer (some ⟨w.heap.size, 0, none⟩)]) ∧
      w' = (w.alloc (.cells #[.pointer (some ⟨bd, 0, none⟩)] 25)).alloc (.cells #[.int .i64 e] 3) := by
  have hmf : ∀ (fn : Fn) (first cap : Array Value) (w : World), (Instr.makeFunc fn first cap).run Try.prog w = .ok (.func fn first cap) w := fun _ _ _ _ => rfl
  go_enter Try.func26, Try.ntmps26
  go_wp2
  go_ret
  exact ⟨rfl, rfl⟩

def lensI (L : List (List UInt8)) : Int := (L.map fun l => (l.length : Int) + 16).sum
def jcells (bd : Nat) (L : List (List UInt8)) (n : Nat) (broken : Bool) : List Value := [.pointer (some ⟨bd, 0, none⟩), .int .i64 L.length, .int .i64 (lensI L), .int .i64 (64 + (n : Int)), .bool broken]

/-- what a journal's contents hold: the length of the part that counts, and the records -/
def openedL (c : List UInt8) : Option (Nat × List (List UInt8)) :=
  if valI (readL c 0 8) 8 < 0 ∨ 16777216 < valI (readL c 0 8) 8 ∨ (0 < valI (readL c 0 8) 8 ∧ (c.length : Int) < 64 + valI (readL c 0 8) 8) then none
  else if (recsL c (valI (readL c 0 8) 8).toNat 64 (64 + (valI (readL c 0 8) 8).toNat)).all (·.2) then some ((valI (readL c 0 8) 8).toNat, (recsL c (valI (readL c 0 8) 8).toNat 64 (64 + (valI (readL c 0 8) 8).toNat)).map (·.1)) else none

def OpenNo (W : World) (m : List Item) (r : Int) (e : Ending) (w' : World) : Prop := e = .returned (.tuple #[.pointer none, .slice none 0 0, .int .i64 r]) ∧ Own W w' m
def OpenYes (W : World) (m : List Item) (bd n : Nat) (L : List (List UInt8)) (e : Ending) (w' : World) : Prop :=
  ∃ bj v, e = .returned (.tuple #[.pointer (some ⟨bj, 0, none⟩), v, .int .i64 0]) ∧ Own W w' (.row bj 61 (jcells bd L n false) :: .sl v 9 1 (ssv L) :: m)

/-- the three result variables, and what else is there -/
def resM (g : Nat) (m : List Item) : List Item := .row (g + 1 + 1) 28 [.int .i64 0] :: .row (g + 1) 22 [.slice none 0 0] :: .row g 27 [.pointer none] :: m
theorem res_own {W w : World} {m : List Item} (h : Own W w m) {g : Nat} (hg : w.heap.size = g) :
    Own W (((w.alloc (.cells #[.pointer none] 27)).alloc (.cells #[.slice none 0 0] 22)).alloc (.cells #[.int .i64 0] 28)) (resM g m) :=
  ((h.newRow_at hg 27 #[.pointer none]).newRow_at (by rw [World.size_alloc, hg]) 22 #[.slice none 0 0]).newRow_at (by rw [World.size_alloc, World.size_alloc, hg]) 28 #[.int .i64 0]
theorem res_cells {W w : World} {g : Nat} {m : List Item} (h : Own W w (resM g m)) :
    w.cell? ⟨g, 0, none⟩ = some (.pointer none) ∧ w.cell? ⟨g + 1, 0, none⟩ = some (.slice none 0 0) ∧ w.cell? ⟨g + 1 + 1, 0, none⟩ = some (.int .i64 0) ∧
    w.frozen? ⟨g, 0, none⟩ = false ∧ w.frozen? ⟨g + 1, 0, none⟩ = false ∧ w.frozen? ⟨g + 1 + 1, 0, none⟩ = false :=
  ⟨(h.row 2 rfl).cell 0, (h.row 1 rfl).cell 0, (h.row 0 rfl).cell 0, (h.row 2 rfl).frozen (j := 0) (by decide), (h.row 1 rfl).frozen (j := 0) (by decide), (h.row 0 rfl).frozen (j := 0) (by decide)⟩
/-- The three stores at the end. -/
theorem res_stored {W w : World} {g : Nat} {m : List Item} (h : Own W w (resM g m)) (a b c : Value) :
    Own W (((w.setCell ⟨g, 0, none⟩ a).setCell ⟨g + 1, 0, none⟩ b).setCell ⟨g + 1 + 1, 0, none⟩ c) (.row (g + 1 + 1) 28 [c] :: .row (g + 1) 22 [b] :: .row g 27 [a] :: m) :=
  ((h.setRow 2 rfl 0 a).setRow 1 rfl 0 b).setRow 0 rfl 0 c

def S3 (g k : Nat) : Prop := k = g ∨ k = g + 1 ∨ k = g + 1 + 1
/-- What is there when Open ends: the result variables have been stored, two structures have been laid. -/
theorem res_final {W w w' : World} {g : Nat} {m : List Item} (h : Own W w (resM g m)) (hu : Upd (S3 g) w w') {a b : Item} (Fa Fb : Nat → Prop) (ha : ItemAt w' Fa a) (hb : ItemAt w' Fb b)
    (hFa : ∀ k, Fa k → w.heap.size ≤ k ∧ k < w'.heap.size) (hFb : ∀ k, Fb k → w.heap.size ≤ k ∧ k < w'.heap.size) (hab : ∀ k, Fa k → ¬ Fb k) : Own W w' (a :: b :: m) := by
  obtain ⟨h1, F, h2, h3, h4⟩ := h
  have e2 : F 0 (g + 1 + 1) := (h2 0 _ rfl).2
  have e1 : F 1 (g + 1) := (h2 1 _ rfl).2
  have e0 : F 2 g := (h2 2 _ rfl).2
  have hne : ∀ j k, F (j + 3) k → ¬ S3 g k := fun j k hk hs => by
    rcases hs with rfl | rfl | rfl
    · exact h4 (j + 3) 2 _ (by omega) hk e0
    · exact h4 (j + 3) 1 _ (by omega) hk e1
    · exact h4 (j + 3) 0 _ (by omega) hk e2
  refine ⟨h1.trans hu (fun k hk hs => ?_), fun j k => match j with | 0 => Fa k | 1 => Fb k | j + 2 => F (j + 3) k, ?_, ?_, ?_⟩
  · have b0 := (h3 2 _ e0).1
    rcases hs with rfl | rfl | rfl <;> omega
  · intro j it2 hj
    match j with
    | 0 => cases hj; exact ha
    | 1 => cases hj; exact hb
    | j + 2 => exact (h2 (j + 3) it2 hj).upd hu (hne j) (fun _ h => h)
  · intro j k hk
    match j with
    | 0 => exact ⟨Nat.le_trans h1.size (hFa k hk).1, (hFa k hk).2⟩
    | 1 => exact ⟨Nat.le_trans h1.size (hFb k hk).1, (hFb k hk).2⟩
    | j + 2 => exact ⟨(h3 (j + 3) k hk).1, Nat.lt_of_lt_of_le (h3 (j + 3) k hk).2 hu.size⟩
  · intro i j k hne' hk hk'
    match i, j with
    | 0, 0 => omega
    | 0, 1 => exact hab k hk hk'
    | 0, j + 2 => have := (h3 (j + 3) k hk').2; have := (hFa k hk).1; omega
    | 1, 0 => exact hab k hk' hk
    | 1, 1 => omega
    | 1, j + 2 => have := (h3 (j + 3) k hk').2; have := (hFb k hk).1; omega
    | i + 2, 0 => have := (h3 (i + 3) k hk).2; have := (hFa k hk').1; omega
    | i + 2, 1 => have := (h3 (i + 3) k hk).2; have := (hFb k hk').1; omega
    | i + 2, j + 2 => exact h4 (i + 3) (j + 3) k (by omega) hk hk'
def Item.any : Item := ⟨fun _ _ => True, fun _ _ _ _ => trivial⟩

set_option maxHeartbeats 4000000 in
set_option maxRecDepth 20000 in
theorem open_dead {W w : World} {m : List Item} (h : Own W w m) (i : Nat) {b : Nat} {s : DSt} (hi : m[i]? = some (.disk b s)) {n : Nat} (hf : Fit n s) (hn : n ≤ 1500) {s1 : DSt} {r : Int} (hr : r ≠ 0) (hs : syncSt s = (r, s1)) :
    Calls Try.prog 11 #[.pointer (some ⟨b, 0, none⟩)] w (OpenNo W (m.set i (.disk b s1)) r) := by
  obtain ⟨g, hg⟩ : ∃ g, w.heap.size = g := ⟨_, rfl⟩
  have HS := Lib.hid hs
  have H0 := Lib.hid (res_own h hg)
  clear h hs
  refine (callsIn_wide (n := 20)).1 ?_
  refine callsIn_of_wp_marks Try.func11 rfl trivial ?_ rfl
  refine wpIn_wide.2 ?_
  simp only [Try.ntmps11, List.size_toArray, List.length_cons, List.length_nil, Nat.reduceAdd, Nat.reduceSub, Array.replicate_succ, Array.replicate_zero, List.push_toArray, List.append_toArray, List.nil_append, List.cons_append]
  go_wp2_with (first
    | (go_at_call 22; go_must (have hc := own_sync H0.out (i + 3) hi hf hn; rw [HS.out] at hc; refine hc.mono ?_; clear hc; rintro e w1 ⟨rfl, h1⟩; have H1 : Hid (Own W w1 (resM g (m.set i (.disk b s1)))) := Lib.hid h1; clear h1; obtain ⟨c1, c2, c3, f1, f2, f3⟩ := res_cells H1.out)))
  have hO := res_stored H1.out (.pointer none) (.slice none 0 0) (.int .i64 r)
  have k1 := (hO.row 2 rfl).cell 0
  have k2 := (hO.row 1 rfl).cell 0
  have k3 := (hO.row 0 rfl).cell 0
  refine ⟨.tuple #[.pointer none, .slice none 0 0, .int .i64 r], ?_, rfl, hO.tail.tail.tail⟩
  simp [results, Try.f11, go_sem, k1, k2, k3]

set_option maxHeartbeats 4000000 in
set_option maxRecDepth 20000 in
theorem open_head {W w : World} {m : List Item} (h : Own W w m) (i : Nat) {b : Nat} {s : DSt} (hi : m[i]? = some (.disk b s)) {n : Nat} (hf : Fit n s) (hn : n ≤ 1500) {s1 : DSt} (hs : syncSt s = (0, s1))
    (hv : valI (readL s1.now 0 8) 8 < 0 ∨ 16777216 < valI (readL s1.now 0 8) 8 ∨ (0 < valI (readL s1.now 0 8) 8 ∧ (s1.now.length : Int) < 64 + valI (readL s1.now 0 8) 8)) :
    Calls Try.prog 11 #[.pointer (some ⟨b, 0, none⟩)] w (OpenNo W (m.set i (.disk b s1)) 11) := by
  obtain ⟨g, hg⟩ : ∃ g, w.heap.size = g := ⟨_, rfl⟩
  have HS := Lib.hid hs
  have H0 := Lib.hid (res_own h hg)
  have hf1 : Fit (n + 1) s1 := by have := hf.sync; rwa [hs] at this
  have hi1 : (m.set i (.disk b s1))[i]? = some (.disk b s1) := List.getElem?_set_self (List.getElem?_eq_some_iff.1 hi).1
  have hl1 := hf1.now
  have HI := Lib.hid hi1
  have hrl := readL_length s1.now 0 8
  obtain ⟨v, hvv⟩ : ∃ v, valI (readL s1.now 0 8) 8 = v := ⟨_, rfl⟩
  rw [hvv] at hv
  have HV := Lib.hid hvv
  obtain ⟨z, hz⟩ : ∃ z, z = s1.now.length := ⟨_, rfl⟩
  rw [← hz] at hv hl1 hrl
  have HZ := Lib.hid hz
  clear h hs hi1 hvv hz
  have hcase : v < 0 ∨ (¬ v < 0 ∧ 16777216 < v) ∨ (¬ v < 0 ∧ ¬ 16777216 < v ∧ 0 < v ∧ (z : Int) < 64 + v) := by omega
  clear hv
  refine (callsIn_wide (n := 20)).1 ?_
  refine callsIn_of_wp_marks Try.func11 rfl trivial ?_ rfl
  refine wpIn_wide.2 ?_
  simp only [Try.ntmps11, List.size_toArray, List.length_cons, List.length_nil, Nat.reduceAdd, Nat.reduceSub, Array.replicate_succ, Array.replicate_zero, List.push_toArray, List.append_toArray, List.nil_append, List.cons_append]
  rcases hcase with hv | ⟨hv0, hv⟩ | ⟨hv0, hv1, hv2, hv⟩
  all_goals
    go_wp2_with (first
      | (go_at_call 22; go_must (have hc := own_sync H0.out (i + 3) hi hf hn; rw [HS.out] at hc; refine hc.mono ?_; clear hc; rintro e w1 ⟨rfl, h1⟩; have H1 : Hid (Own W w1 (resM g (m.set i (.disk b s1)))) := Lib.hid h1; clear h1; obtain ⟨c1, c2, c3, f1, f2, f3⟩ := res_cells H1.out))
      | (go_at_call 24; go_must (refine (own_read H1.out (i + 3) HI.out hf1 0 8 (by decide) (by decide)).mono ?_; rintro e w2 ⟨rfl, h2⟩; have H2 : Hid (Own W w2 (resM g (m.set i (.disk b s1)))) := Lib.hid h2; clear h2; obtain ⟨c1, c2, c3, f1, f2, f3⟩ := res_cells H2.out))
      | (go_at_call 23; go_must (refine (value_any _ (readL s1.now 0 8) 8 (by decide) (by unfold maxLen; omega)).mono ?_; rintro e1 w3 ⟨rfl, rfl⟩; rw [HV.out]))
      | (go_at_call 25; go_must (have hc := own_size H2.out (i + 3) HI.out; rw [← HZ.out] at hc; refine hc.mono ?_; clear hc; rintro e1 w3 ⟨rfl, rfl⟩)))
    have hO := res_stored H2.out (.pointer none) (.slice none 0 0) (.int .i64 11)
    have k1 := (hO.row 2 rfl).cell 0
    have k2 := (hO.row 1 rfl).cell 0
    have k3 := (hO.row 0 rfl).cell 0
    refine ⟨.tuple #[.pointer none, .slice none 0 0, .int .i64 11], ?_, rfl, hO.tail.tail.tail⟩
    simp [results, Try.f11, go_sem, k1, k2, k3]
end Go.Proofs.Ytcbpgmoegfkhnaa
